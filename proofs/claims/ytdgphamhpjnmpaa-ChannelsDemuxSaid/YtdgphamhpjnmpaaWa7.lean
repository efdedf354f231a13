/- Part 7 of the texts of DmJ. -/
import Derived.Test.YtdgphamhpjnmpaaWa6
import Derived.Below
import Derived.Deep.Slices
import Derived.KernelRfl
import Derived.Laws.Append
import Derived.Laws.Build
import Derived.Laws.BytesString
import Derived.Laws.Cells
import Derived.Laws.Concat
import Derived.Laws.Entries
import Derived.Laws.MakeOwn
import Derived.Laws.Slices
import Derived.Laws.Strings
import Derived.Laws.Strings2
import Derived.Laws.StructEq
import Derived.Lib.Strings
import Derived.Lib.UnsafeStr
import Derived.Orders
import Derived.OrdersHeld
import Derived.OrdersIn
import Derived.ProofKit
import Derived.RangeFuncCalls
import Derived.RangeFuncIn
import Derived.RangeFuncLeaves
import Derived.RangeFuncRecord
import Derived.Shelf.Bits.Mul64
import Derived.Shelf.Strings.Builder1
import Derived.Shelf.Strings.Builder2
import Derived.Shelf.Strings.BuilderF
import Derived.Shelf.Strings.Prefix
import Derived.Shelf.Strings.Repeat
import Derived.Tactics
import Derived.TacticsIn
import Derived.Test.YtdgphamhpjnmpaaProg
import Derived.Test.YtdgphamhpjnmpaaRows
/- The reference's demux: the data of a frame. -/
namespace Go.Proofs.Ytdgphamhpjnmpaa
namespace Sx

def partR (s : Snk) (a : Arr) (f : Tf) : Snk × Arr :=
  if s.begun = true then
    let part := s.part ++ f.data.take (min f.first f.data.length).toNat
    (if f.first = 2047 ∧ (takeK part).2.2 = 4 then { s with part := part } else { s with begun := false, part := [] },
     if (takeK part).2.2 = 0 ∧ (takeK part).2.1 = part.length then dlv a (getK part).1.apid part else if f.first = 2047 ∧ (takeK part).2.2 = 4 then a else { a with broken := a.broken + 1 })
  else (s, a)
def goR : Nat → List UInt8 → Snk → Arr → Snk × Arr
  | 0, _, s, a => (s, a)
  | n + 1, b, s, a => if b = [] then (s, a) else if (takeK b).2.2 = 4 then ({ s with begun := true, part := b }, a) else if (takeK b).2.2 ≠ 0 then (s, { a with broken := a.broken + 1 }) else goR n (b.drop (takeK b).2.1) s (dlv a (getK (b.take (takeK b).2.1)).1.apid (b.take (takeK b).2.1))
def fieldF (s : Snk) (a : Arr) (f : Tf) : Snk × Arr :=
  if f.first = 2047 then partR s a f else
  goR (f.data.drop (min f.first f.data.length).toNat).length (f.data.drop (min f.first f.data.length).toNat) (partR s a f).1 (partR s a f).2
theorem field_ok {d off o : Nat} {s : Snk} {a : Arr} {f : Tf} {pre post : List Value} (hf : 0 ≤ f.first ∧ f.first ≤ 2047) (hdl : f.data.length ≤ 1000) (hpt : s.begun = true → s.part.length ≤ 90000) (hap : a.pks.length ≤ 1000) (hab : 0 ≤ a.broken ∧ a.broken ≤ 1000) :
    Fn Try.prog 34 #[P1 d 0, P1 d off, P1 o 0, tfv f] [rowF d 83 off (snkC s) pre post, arrA o a]
      (Ret fun _ Q => Q = [rowF d 83 off (snkC (fieldF s a f).1) pre post, arrA o (fieldF s a f).2]) := by
  obtain ⟨k, hk⟩ : ∃ k : Nat, min f.first f.data.length = (k : Int) := ⟨(min f.first f.data.length).toNat, by omega⟩
  have hkn : (min f.first f.data.length).toNat = k := by omega
  have hkl : k ≤ f.data.length := by omega
  have htf : fieldF s a f = if f.first = 2047 then partR s a f else goR (f.data.drop k).length (f.data.drop k) (partR s a f).1 (partR s a f).2 := by rw [fieldF, hkn]
  rw [htf]
  refine Fn.of (args := _) Try.func34 rfl Try.ntmps34 rfl ?_
  intro w0 g0
  refine CW.seq ?_
  refine CW.region ?_
  refine LW.opBA (ob_box rfl .agg (fun _ => .c (.c (.c (.n))))) rfl rfl (fun b7 => ?_)
  refine LW.nil ?_
  refine KW.thenN ?_
  refine CW.seq ?_
  refine CW.region ?_
  refine LW.v (ov_fieldAddr fo85_4 rfl) ?_
  refine LW.v (ov_loadR 3 ta3 rfl rfl rfl) ?_
  refine LW.v (ov_fieldAddr fo85_5 rfl) ?_
  refine LW.v (ov_loadR 3 ta9 rfl rfl rfl) ?_
  refine LW.v (ov_lenS un9 rfl) ?_
  refine LW.v (OpV.eq (ov_min rfl rfl) (congrArg (Value.int .i64) hk)) ?_
  refine LW.v (ov_assign rfl) ?_
  refine LW.nil ?_
  refine KW.thenN ?_
  refine CW.cut (fun env As => env = [(1, P1 d off), (2, P1 o 0), (7, P1 b7 0), (8, .int .i64 k)] ∧ As = [ex g0, rowF d 83 off (snkC (partR s a f).1) pre post, arrA o (partR s a f).2, tfR b7 f]) (fun Mm hMm => ?_) ?_
  · obtain ⟨known, frame, count, begun, part⟩ := s
    simp only at hpt
    cases begun with
    | false =>
      have hp : partR ⟨known, frame, count, false, part⟩ a f = (⟨known, frame, count, false, part⟩, a) := by rw [partR, if_neg (by simp)]
      rw [hp] at hMm
      refine CW.seq ?_
      refine CW.region ?_
      refine LW.v (ov_move rfl) ?_
      refine LW.v (ov_nilP rfl) ?_
      refine LW.v (ov_fieldAddr fo80_3 rfl) ?_
      refine LW.v (ov_loadF 1 ta4 rfl rfl rfl) ?_
      refine LW.nil ?_
      refine KW.thenN ?_
      refine CW.condF rfl rfl ?_
      refine CW.skip ?_
      refine KW.thenN ?_
      exact KW.meet [0, 1, 2, 3] hMm ⟨rfl, rfl⟩ ⟨rfl, rfl, rfl, rfl, trivial⟩ rfl rfl
    | true =>
      have hpl := hpt rfl
      obtain ⟨pt, hpt2⟩ : ∃ pt, pt = part ++ f.data.take k := ⟨_, rfl⟩
      have hptl : pt.length ≤ 91000 := by rw [hpt2, List.length_append, List.length_take]; omega
      have hp : partR ⟨known, frame, count, true, part⟩ a f = (if f.first = 2047 ∧ (takeK pt).2.2 = 4 then ⟨known, frame, count, true, pt⟩ else ⟨known, frame, count, false, []⟩,
        if (takeK pt).2.2 = 0 ∧ (takeK pt).2.1 = pt.length then dlv a (getK pt).1.apid pt else if f.first = 2047 ∧ (takeK pt).2.2 = 4 then a else { a with broken := a.broken + 1 }) := by rw [partR, if_pos rfl, hkn]; simp only; rw [← hpt2]
      have hcall := RTake_ok (l := pt) (by omega)
      generalize takeK pt = t at hp hcall
      obtain ⟨p, n, e⟩ := t
      simp only at hp hcall
      refine CW.seq ?_
      refine CW.region ?_
      refine LW.v (ov_move rfl) ?_
      refine LW.v (ov_nilP rfl) ?_
      refine LW.v (ov_fieldAddr fo80_3 rfl) ?_
      refine LW.v (ov_loadF 1 ta4 rfl rfl rfl) ?_
      refine LW.nil ?_
      refine KW.thenN ?_
      refine CW.condT rfl rfl ?_
      refine CW.seq ?_
      refine CW.draw [3] rfl mixed rfl (ls := #[false, false, false, false, false, false, false, false, false, false, false, false, false]) (by kernel_rfl) ?_
      refine DW.tk 0 [3] rfl (ov_move rfl) ?_
      refine DW.tk 1 [3] rfl (ov_move rfl) ?_
      first | refine DW.tk 2 [3] rfl (ov_nilP rfl) ?_ | refine DW.tk 2 [3] rfl (ov_nilF rfl) ?_
      refine DW.tk 3 [3] rfl (ov_fieldAddr fo80_4 rfl) ?_
      refine DW.tk 5 [3] rfl (ov_fieldAddr fo85_5 rfl) ?_
      refine DW.tk 6 [3] rfl (ov_loadR 0 ta9 rfl rfl rfl) ?_
      refine DW.tk 7 [3] rfl (ov_move rfl) ?_
      refine DW.tk 8 [3] rfl (OpV.eq (ov_ssHi un9 rfl rfl (by omega)) (congrArg S (show _ = f.data.take k by rw [Int.toNat_natCast]))) ?_
      refine DW.all1 4 (by kernel_rfl) ?_
      refine DO.opV [3] rfl (ov_loadF 1 ta9 rfl rfl rfl) rfl rfl rfl rfl rfl ?_
      refine DW.tk 9 [3] rfl (OpV.eq (ov_strAdd rfl rfl (by simp only [List.length_take]; omega)) (congrArg S hpt2.symm)) ?_
      first | refine DW.tk 10 [3] rfl (ov_nilP rfl) ?_ | refine DW.tk 10 [3] rfl (ov_nilF rfl) ?_
      refine DW.tk 11 [3] rfl (ov_fieldAddr fo80_4 rfl) ?_
      refine DW.all1 12 (by kernel_rfl) ?_
      refine DO.opU [3] rfl (ou_storeF ta9 rfl rfl (.one rfl) rfl rfl (.t (.t (.t (.t (.h (.n)))))) (.t (.h))) rfl rfl rfl rfl ?_
      refine DW.done (by kernel_rfl) ?_
      refine KW.thenN ?_
      refine CW.seq ?_
      refine CW.region ?_
      refine LW.v (ov_move rfl) ?_
      refine LW.v (ov_nilP rfl) ?_
      refine LW.v (ov_fieldAddr fo80_4 rfl) ?_
      refine LW.v (ov_loadF 1 ta9 rfl rfl rfl) ?_
      refine LW.call [] (oc_fn cf63 rfl) rfl rfl rfl rfl (hcall) ?_
      rintro _ _ ⟨rfl, rfl⟩
      simp only [putBack, List.append_nil]
      refine LW.v (ov_move rfl) ?_
      refine LW.v (ov_extract rfl rfl) ?_
      refine LW.v (ov_extract rfl rfl) ?_
      refine LW.v (ov_extract rfl rfl) ?_
      refine LW.opBA (ob_alloc zc110 (fun _ => .c (.c (.c (.c (.n)))))) rfl rfl (fun b9 => ?_)
      refine LW.opU (ou_storeW ta110 rfl rfl .agg rfl rfl (.h (.h (.h (.h (.h (.n)))))) (.t (.t (.t (.t (.h)))))) rfl ?_
      refine LW.v (ov_assign rfl) ?_
      refine LW.v (ov_assign rfl) ?_
      refine LW.nil ?_
      refine KW.thenN ?_
      by_cases hw : f.first = 2047
      · by_cases he : e = 0
        · rw [if_neg (by omega)] at hp
          by_cases hn : n = pt.length
          · rw [if_pos ⟨he, hn⟩] at hp
            rw [hp] at hMm
            refine CW.seq ?_
            refine CW.region ?_
            refine LW.v (ov_fieldAddr fo85_4 rfl) ?_
            refine LW.v (ov_loadR 3 ta3 rfl rfl rfl) ?_
            refine LW.v (OpV.eq (ov_eql rfl rfl) (congrArg Value.bool (decide_eq_true (by first | omega | assumption)))) ?_
            refine LW.v (ov_move rfl) ?_
            refine LW.v (ov_move rfl) ?_
            refine LW.v (OpV.eq (ov_eql rfl rfl) (congrArg Value.bool (decide_eq_false (by first | omega | assumption)))) ?_
            first | refine LW.v (ov_pickT rfl rfl) ?_ | refine LW.v (ov_pickF rfl rfl) ?_ | refine LW.v (ov_pick rfl rfl rfl) ?_
            refine LW.v (ov_assign rfl) ?_
            refine LW.nil ?_
            refine KW.thenN ?_
            refine CW.seq ?_
            refine CW.seq ?_
            refine CW.region ?_
            refine LW.v (ov_move rfl) ?_
            refine LW.v (OpV.eq (ov_eql rfl rfl) (congrArg Value.bool (decide_eq_true (by first | omega | assumption)))) ?_
            refine LW.v (ov_move rfl) ?_
            refine LW.v (ov_move rfl) ?_
            refine LW.v (ov_move rfl) ?_
            refine LW.v (ov_nilP rfl) ?_
            refine LW.v (ov_fieldAddr fo80_4 rfl) ?_
            refine LW.v (ov_loadF 1 ta9 rfl rfl rfl) ?_
            refine LW.v (ov_lenS un9 rfl) ?_
            refine LW.v (OpV.eq (ov_eql rfl rfl) (congrArg Value.bool (decide_eq_true (by first | omega | assumption)))) ?_
            first | refine LW.v (ov_pickT rfl rfl) ?_ | refine LW.v (ov_pickF rfl rfl) ?_ | refine LW.v (ov_pick rfl rfl rfl) ?_
            refine LW.nil ?_
            refine KW.thenN ?_
            refine CW.condT rfl rfl ?_
            refine CW.region ?_
            refine LW.v (ov_move rfl) ?_
            refine LW.v (ov_move rfl) ?_
            refine LW.v (ov_nilP rfl) ?_
            refine LW.v (ov_fieldAddr fo80_4 rfl) ?_
            refine LW.v (ov_loadF 1 ta9 rfl rfl rfl) ?_
            refine LW.call [2] (oc_fn cf64 rfl) rfl rfl rfl rfl (arrived_ok (b := pt) (by omega) (by omega)) ?_
            rintro _ _ rfl
            simp only [putBack, List.set_cons_succ, List.set_cons_zero, List.append_nil]
            refine LW.nil ?_
            refine KW.thenN ?_
            refine CW.seq ?_
            refine CW.region ?_
            refine LW.v (ov_move rfl) ?_
            refine LW.v (ov_not rfl) ?_
            refine LW.nil ?_
            refine KW.thenN ?_
            refine CW.condT rfl rfl ?_
            refine CW.region ?_
            refine LW.v (ov_move rfl) ?_
            refine LW.v (ov_move rfl) ?_
            refine LW.v (ov_nilP rfl) ?_
            refine LW.v (ov_fieldAddr fo80_3 rfl) ?_
            refine LW.opU (ou_storeF ta4 rfl rfl (.one rfl) rfl rfl (.t (.t (.t (.h (.n))))) (.t (.h))) rfl ?_
            refine LW.v (ov_nilP rfl) ?_
            refine LW.v (ov_fieldAddr fo80_4 rfl) ?_
            refine LW.opU (ou_storeF ta9 rfl rfl (.one rfl) rfl rfl (.t (.t (.t (.t (.h (.n)))))) (.t (.h))) rfl ?_
            refine LW.nil ?_
            refine KW.thenN ?_
            exact KW.meet [0, 1, 2, 3] hMm ⟨rfl, rfl⟩ ⟨rfl, rfl, rfl, rfl, trivial⟩ rfl rfl
          · rw [if_neg (fun q => hn q.2), if_neg (by omega)] at hp
            rw [hp] at hMm
            refine CW.seq ?_
            refine CW.region ?_
            refine LW.v (ov_fieldAddr fo85_4 rfl) ?_
            refine LW.v (ov_loadR 3 ta3 rfl rfl rfl) ?_
            refine LW.v (OpV.eq (ov_eql rfl rfl) (congrArg Value.bool (decide_eq_true (by first | omega | assumption)))) ?_
            refine LW.v (ov_move rfl) ?_
            refine LW.v (ov_move rfl) ?_
            refine LW.v (OpV.eq (ov_eql rfl rfl) (congrArg Value.bool (decide_eq_false (by first | omega | assumption)))) ?_
            first | refine LW.v (ov_pickT rfl rfl) ?_ | refine LW.v (ov_pickF rfl rfl) ?_ | refine LW.v (ov_pick rfl rfl rfl) ?_
            refine LW.v (ov_assign rfl) ?_
            refine LW.nil ?_
            refine KW.thenN ?_
            refine CW.seq ?_
            refine CW.seq ?_
            refine CW.region ?_
            refine LW.v (ov_move rfl) ?_
            refine LW.v (OpV.eq (ov_eql rfl rfl) (congrArg Value.bool (decide_eq_true (by first | omega | assumption)))) ?_
            refine LW.v (ov_move rfl) ?_
            refine LW.v (ov_move rfl) ?_
            refine LW.v (ov_move rfl) ?_
            refine LW.v (ov_nilP rfl) ?_
            refine LW.v (ov_fieldAddr fo80_4 rfl) ?_
            refine LW.v (ov_loadF 1 ta9 rfl rfl rfl) ?_
            refine LW.v (ov_lenS un9 rfl) ?_
            refine LW.v (OpV.eq (ov_eql rfl rfl) (congrArg Value.bool (decide_eq_false (by first | omega | assumption)))) ?_
            first | refine LW.v (ov_pickT rfl rfl) ?_ | refine LW.v (ov_pickF rfl rfl) ?_ | refine LW.v (ov_pick rfl rfl rfl) ?_
            refine LW.nil ?_
            refine KW.thenN ?_
            refine CW.condF rfl rfl ?_
            refine CW.seq ?_
            refine CW.region ?_
            refine LW.v (ov_move rfl) ?_
            refine LW.v (ov_not rfl) ?_
            refine LW.nil ?_
            refine KW.thenN ?_
            refine CW.condT rfl rfl ?_
            refine KW.arrOpen 2 rfl (fun ad c => ?_)
            simp only [List.set_cons_succ, List.set_cons_zero, List.cons_append, List.nil_append]
            refine CW.region ?_
            refine LW.v (ov_move rfl) ?_
            refine LW.v (ov_nilP rfl) ?_
            refine LW.v (ov_fieldAddr fo33_5 rfl) ?_
            refine LW.v (ov_loadR 2 ta3 rfl rfl rfl) ?_
            first | refine LW.v (ov_add rfl rfl (by omega)) ?_ | refine LW.v (ov_addW rfl rfl) ?_
            refine LW.v (ov_nilP rfl) ?_
            refine LW.v (ov_fieldAddr fo33_5 rfl) ?_
            refine LW.opU (ou_storeW ta3 rfl rfl (.one rfl) rfl rfl (.t (.t (.t (.t (.t (.h (.n))))))) (.t (.t (.h)))) rfl ?_
            refine LW.nil ?_
            refine KW.thenN ?_
            refine CW.seq ?_
            refine CW.region ?_
            refine LW.v (ov_move rfl) ?_
            refine LW.v (ov_not rfl) ?_
            refine LW.nil ?_
            refine KW.thenN ?_
            refine CW.condT rfl rfl ?_
            refine CW.region ?_
            refine LW.v (ov_move rfl) ?_
            refine LW.v (ov_move rfl) ?_
            refine LW.v (ov_nilP rfl) ?_
            refine LW.v (ov_fieldAddr fo80_3 rfl) ?_
            refine LW.opU (ou_storeF ta4 rfl rfl (.one rfl) rfl rfl (.t (.t (.t (.h (.n))))) (.t (.h))) rfl ?_
            refine LW.v (ov_nilP rfl) ?_
            refine LW.v (ov_fieldAddr fo80_4 rfl) ?_
            refine LW.opU (ou_storeF ta9 rfl rfl (.one rfl) rfl rfl (.t (.t (.t (.t (.h (.n)))))) (.t (.h))) rfl ?_
            refine LW.nil ?_
            refine KW.thenN ?_
            refine KW.arrShut (a := { a with broken := a.broken + 1 }) 2 5 rfl rfl (by decide) rfl ?_
            exact KW.meet [0, 1, 2, 3] hMm ⟨rfl, rfl⟩ ⟨rfl, rfl, rfl, rfl, trivial⟩ rfl rfl
        · by_cases h4 : e = 4
          · rw [if_pos ⟨hw, h4⟩, if_neg (fun q => he q.1), if_pos ⟨hw, h4⟩] at hp
            rw [hp] at hMm
            refine CW.seq ?_
            refine CW.region ?_
            refine LW.v (ov_fieldAddr fo85_4 rfl) ?_
            refine LW.v (ov_loadR 3 ta3 rfl rfl rfl) ?_
            refine LW.v (OpV.eq (ov_eql rfl rfl) (congrArg Value.bool (decide_eq_true (by first | omega | assumption)))) ?_
            refine LW.v (ov_move rfl) ?_
            refine LW.v (ov_move rfl) ?_
            refine LW.v (OpV.eq (ov_eql rfl rfl) (congrArg Value.bool (decide_eq_true (by first | omega | assumption)))) ?_
            first | refine LW.v (ov_pickT rfl rfl) ?_ | refine LW.v (ov_pickF rfl rfl) ?_ | refine LW.v (ov_pick rfl rfl rfl) ?_
            refine LW.v (ov_assign rfl) ?_
            refine LW.nil ?_
            refine KW.thenN ?_
            refine CW.seq ?_
            refine CW.seq ?_
            refine CW.region ?_
            refine LW.v (ov_move rfl) ?_
            refine LW.v (OpV.eq (ov_eql rfl rfl) (congrArg Value.bool (decide_eq_false (by first | omega | assumption)))) ?_
            refine LW.v (ov_move rfl) ?_
            refine LW.skip rfl rfl ?_
            refine LW.skip rfl rfl ?_
            refine LW.skip rfl rfl ?_
            refine LW.skip rfl rfl ?_
            refine LW.skip rfl rfl ?_
            refine LW.skip rfl rfl ?_
            refine LW.skip rfl rfl ?_
            first | refine LW.v (ov_pickT rfl rfl) ?_ | refine LW.v (ov_pickF rfl rfl) ?_ | refine LW.v (ov_pick rfl rfl rfl) ?_
            refine LW.nil ?_
            refine KW.thenN ?_
            refine CW.condF rfl rfl ?_
            refine CW.seq ?_
            refine CW.region ?_
            refine LW.v (ov_move rfl) ?_
            refine LW.v (ov_not rfl) ?_
            refine LW.nil ?_
            refine KW.thenN ?_
            refine CW.condF rfl rfl ?_
            refine CW.skip ?_
            refine KW.thenN ?_
            refine CW.seq ?_
            refine CW.region ?_
            refine LW.v (ov_move rfl) ?_
            refine LW.v (ov_not rfl) ?_
            refine LW.nil ?_
            refine KW.thenN ?_
            refine CW.condF rfl rfl ?_
            refine CW.skip ?_
            refine KW.thenN ?_
            exact KW.meet [0, 1, 2, 3] hMm ⟨rfl, rfl⟩ ⟨rfl, rfl, rfl, rfl, trivial⟩ rfl rfl
          · rw [if_neg (fun q => h4 q.2), if_neg (fun q => he q.1), if_neg (fun q => h4 q.2)] at hp
            rw [hp] at hMm
            refine CW.seq ?_
            refine CW.region ?_
            refine LW.v (ov_fieldAddr fo85_4 rfl) ?_
            refine LW.v (ov_loadR 3 ta3 rfl rfl rfl) ?_
            refine LW.v (OpV.eq (ov_eql rfl rfl) (congrArg Value.bool (decide_eq_true (by first | omega | assumption)))) ?_
            refine LW.v (ov_move rfl) ?_
            refine LW.v (ov_move rfl) ?_
            refine LW.v (OpV.eq (ov_eql rfl rfl) (congrArg Value.bool (decide_eq_false (by first | omega | assumption)))) ?_
            first | refine LW.v (ov_pickT rfl rfl) ?_ | refine LW.v (ov_pickF rfl rfl) ?_ | refine LW.v (ov_pick rfl rfl rfl) ?_
            refine LW.v (ov_assign rfl) ?_
            refine LW.nil ?_
            refine KW.thenN ?_
            refine CW.seq ?_
            refine CW.seq ?_
            refine CW.region ?_
            refine LW.v (ov_move rfl) ?_
            refine LW.v (OpV.eq (ov_eql rfl rfl) (congrArg Value.bool (decide_eq_false (by first | omega | assumption)))) ?_
            refine LW.v (ov_move rfl) ?_
            refine LW.skip rfl rfl ?_
            refine LW.skip rfl rfl ?_
            refine LW.skip rfl rfl ?_
            refine LW.skip rfl rfl ?_
            refine LW.skip rfl rfl ?_
            refine LW.skip rfl rfl ?_
            refine LW.skip rfl rfl ?_
            first | refine LW.v (ov_pickT rfl rfl) ?_ | refine LW.v (ov_pickF rfl rfl) ?_ | refine LW.v (ov_pick rfl rfl rfl) ?_
            refine LW.nil ?_
            refine KW.thenN ?_
            refine CW.condF rfl rfl ?_
            refine CW.seq ?_
            refine CW.region ?_
            refine LW.v (ov_move rfl) ?_
            refine LW.v (ov_not rfl) ?_
            refine LW.nil ?_
            refine KW.thenN ?_
            refine CW.condT rfl rfl ?_
            refine KW.arrOpen 2 rfl (fun ad c => ?_)
            simp only [List.set_cons_succ, List.set_cons_zero, List.cons_append, List.nil_append]
            refine CW.region ?_
            refine LW.v (ov_move rfl) ?_
            refine LW.v (ov_nilP rfl) ?_
            refine LW.v (ov_fieldAddr fo33_5 rfl) ?_
            refine LW.v (ov_loadR 2 ta3 rfl rfl rfl) ?_
            first | refine LW.v (ov_add rfl rfl (by omega)) ?_ | refine LW.v (ov_addW rfl rfl) ?_
            refine LW.v (ov_nilP rfl) ?_
            refine LW.v (ov_fieldAddr fo33_5 rfl) ?_
            refine LW.opU (ou_storeW ta3 rfl rfl (.one rfl) rfl rfl (.t (.t (.t (.t (.t (.h (.n))))))) (.t (.t (.h)))) rfl ?_
            refine LW.nil ?_
            refine KW.thenN ?_
            refine CW.seq ?_
            refine CW.region ?_
            refine LW.v (ov_move rfl) ?_
            refine LW.v (ov_not rfl) ?_
            refine LW.nil ?_
            refine KW.thenN ?_
            refine CW.condT rfl rfl ?_
            refine CW.region ?_
            refine LW.v (ov_move rfl) ?_
            refine LW.v (ov_move rfl) ?_
            refine LW.v (ov_nilP rfl) ?_
            refine LW.v (ov_fieldAddr fo80_3 rfl) ?_
            refine LW.opU (ou_storeF ta4 rfl rfl (.one rfl) rfl rfl (.t (.t (.t (.h (.n))))) (.t (.h))) rfl ?_
            refine LW.v (ov_nilP rfl) ?_
            refine LW.v (ov_fieldAddr fo80_4 rfl) ?_
            refine LW.opU (ou_storeF ta9 rfl rfl (.one rfl) rfl rfl (.t (.t (.t (.t (.h (.n)))))) (.t (.h))) rfl ?_
            refine LW.nil ?_
            refine KW.thenN ?_
            refine KW.arrShut (a := { a with broken := a.broken + 1 }) 2 5 rfl rfl (by decide) rfl ?_
            exact KW.meet [0, 1, 2, 3] hMm ⟨rfl, rfl⟩ ⟨rfl, rfl, rfl, rfl, trivial⟩ rfl rfl
      · by_cases he : e = 0
        · rw [if_neg (by omega)] at hp
          by_cases hn : n = pt.length
          · rw [if_pos ⟨he, hn⟩] at hp
            rw [hp] at hMm
            refine CW.seq ?_
            refine CW.region ?_
            refine LW.v (ov_fieldAddr fo85_4 rfl) ?_
            refine LW.v (ov_loadR 3 ta3 rfl rfl rfl) ?_
            refine LW.v (OpV.eq (ov_eql rfl rfl) (congrArg Value.bool (decide_eq_false (by first | omega | assumption)))) ?_
            refine LW.v (ov_move rfl) ?_
            refine LW.skip rfl rfl ?_
            refine LW.skip rfl rfl ?_
            first | refine LW.v (ov_pickT rfl rfl) ?_ | refine LW.v (ov_pickF rfl rfl) ?_ | refine LW.v (ov_pick rfl rfl rfl) ?_
            refine LW.v (ov_assign rfl) ?_
            refine LW.nil ?_
            refine KW.thenN ?_
            refine CW.seq ?_
            refine CW.seq ?_
            refine CW.region ?_
            refine LW.v (ov_move rfl) ?_
            refine LW.v (OpV.eq (ov_eql rfl rfl) (congrArg Value.bool (decide_eq_true (by first | omega | assumption)))) ?_
            refine LW.v (ov_move rfl) ?_
            refine LW.v (ov_move rfl) ?_
            refine LW.v (ov_move rfl) ?_
            refine LW.v (ov_nilP rfl) ?_
            refine LW.v (ov_fieldAddr fo80_4 rfl) ?_
            refine LW.v (ov_loadF 1 ta9 rfl rfl rfl) ?_
            refine LW.v (ov_lenS un9 rfl) ?_
            refine LW.v (OpV.eq (ov_eql rfl rfl) (congrArg Value.bool (decide_eq_true (by first | omega | assumption)))) ?_
            first | refine LW.v (ov_pickT rfl rfl) ?_ | refine LW.v (ov_pickF rfl rfl) ?_ | refine LW.v (ov_pick rfl rfl rfl) ?_
            refine LW.nil ?_
            refine KW.thenN ?_
            refine CW.condT rfl rfl ?_
            refine CW.region ?_
            refine LW.v (ov_move rfl) ?_
            refine LW.v (ov_move rfl) ?_
            refine LW.v (ov_nilP rfl) ?_
            refine LW.v (ov_fieldAddr fo80_4 rfl) ?_
            refine LW.v (ov_loadF 1 ta9 rfl rfl rfl) ?_
            refine LW.call [2] (oc_fn cf64 rfl) rfl rfl rfl rfl (arrived_ok (b := pt) (by omega) (by omega)) ?_
            rintro _ _ rfl
            simp only [putBack, List.set_cons_succ, List.set_cons_zero, List.append_nil]
            refine LW.nil ?_
            refine KW.thenN ?_
            refine CW.seq ?_
            refine CW.region ?_
            refine LW.v (ov_move rfl) ?_
            refine LW.v (ov_not rfl) ?_
            refine LW.nil ?_
            refine KW.thenN ?_
            refine CW.condT rfl rfl ?_
            refine CW.region ?_
            refine LW.v (ov_move rfl) ?_
            refine LW.v (ov_move rfl) ?_
            refine LW.v (ov_nilP rfl) ?_
            refine LW.v (ov_fieldAddr fo80_3 rfl) ?_
            refine LW.opU (ou_storeF ta4 rfl rfl (.one rfl) rfl rfl (.t (.t (.t (.h (.n))))) (.t (.h))) rfl ?_
            refine LW.v (ov_nilP rfl) ?_
            refine LW.v (ov_fieldAddr fo80_4 rfl) ?_
            refine LW.opU (ou_storeF ta9 rfl rfl (.one rfl) rfl rfl (.t (.t (.t (.t (.h (.n)))))) (.t (.h))) rfl ?_
            refine LW.nil ?_
            refine KW.thenN ?_
            exact KW.meet [0, 1, 2, 3] hMm ⟨rfl, rfl⟩ ⟨rfl, rfl, rfl, rfl, trivial⟩ rfl rfl
          · rw [if_neg (fun q => hn q.2), if_neg (by omega)] at hp
            rw [hp] at hMm
            refine CW.seq ?_
            refine CW.region ?_
            refine LW.v (ov_fieldAddr fo85_4 rfl) ?_
            refine LW.v (ov_loadR 3 ta3 rfl rfl rfl) ?_
            refine LW.v (OpV.eq (ov_eql rfl rfl) (congrArg Value.bool (decide_eq_false (by first | omega | assumption)))) ?_
            refine LW.v (ov_move rfl) ?_
            refine LW.skip rfl rfl ?_
            refine LW.skip rfl rfl ?_
            first | refine LW.v (ov_pickT rfl rfl) ?_ | refine LW.v (ov_pickF rfl rfl) ?_ | refine LW.v (ov_pick rfl rfl rfl) ?_
            refine LW.v (ov_assign rfl) ?_
            refine LW.nil ?_
            refine KW.thenN ?_
            refine CW.seq ?_
            refine CW.seq ?_
            refine CW.region ?_
            refine LW.v (ov_move rfl) ?_
            refine LW.v (OpV.eq (ov_eql rfl rfl) (congrArg Value.bool (decide_eq_true (by first | omega | assumption)))) ?_
            refine LW.v (ov_move rfl) ?_
            refine LW.v (ov_move rfl) ?_
            refine LW.v (ov_move rfl) ?_
            refine LW.v (ov_nilP rfl) ?_
            refine LW.v (ov_fieldAddr fo80_4 rfl) ?_
            refine LW.v (ov_loadF 1 ta9 rfl rfl rfl) ?_
            refine LW.v (ov_lenS un9 rfl) ?_
            refine LW.v (OpV.eq (ov_eql rfl rfl) (congrArg Value.bool (decide_eq_false (by first | omega | assumption)))) ?_
            first | refine LW.v (ov_pickT rfl rfl) ?_ | refine LW.v (ov_pickF rfl rfl) ?_ | refine LW.v (ov_pick rfl rfl rfl) ?_
            refine LW.nil ?_
            refine KW.thenN ?_
            refine CW.condF rfl rfl ?_
            refine CW.seq ?_
            refine CW.region ?_
            refine LW.v (ov_move rfl) ?_
            refine LW.v (ov_not rfl) ?_
            refine LW.nil ?_
            refine KW.thenN ?_
            refine CW.condT rfl rfl ?_
            refine KW.arrOpen 2 rfl (fun ad c => ?_)
            simp only [List.set_cons_succ, List.set_cons_zero, List.cons_append, List.nil_append]
            refine CW.region ?_
            refine LW.v (ov_move rfl) ?_
            refine LW.v (ov_nilP rfl) ?_
            refine LW.v (ov_fieldAddr fo33_5 rfl) ?_
            refine LW.v (ov_loadR 2 ta3 rfl rfl rfl) ?_
            first | refine LW.v (ov_add rfl rfl (by omega)) ?_ | refine LW.v (ov_addW rfl rfl) ?_
            refine LW.v (ov_nilP rfl) ?_
            refine LW.v (ov_fieldAddr fo33_5 rfl) ?_
            refine LW.opU (ou_storeW ta3 rfl rfl (.one rfl) rfl rfl (.t (.t (.t (.t (.t (.h (.n))))))) (.t (.t (.h)))) rfl ?_
            refine LW.nil ?_
            refine KW.thenN ?_
            refine CW.seq ?_
            refine CW.region ?_
            refine LW.v (ov_move rfl) ?_
            refine LW.v (ov_not rfl) ?_
            refine LW.nil ?_
            refine KW.thenN ?_
            refine CW.condT rfl rfl ?_
            refine CW.region ?_
            refine LW.v (ov_move rfl) ?_
            refine LW.v (ov_move rfl) ?_
            refine LW.v (ov_nilP rfl) ?_
            refine LW.v (ov_fieldAddr fo80_3 rfl) ?_
            refine LW.opU (ou_storeF ta4 rfl rfl (.one rfl) rfl rfl (.t (.t (.t (.h (.n))))) (.t (.h))) rfl ?_
            refine LW.v (ov_nilP rfl) ?_
            refine LW.v (ov_fieldAddr fo80_4 rfl) ?_
            refine LW.opU (ou_storeF ta9 rfl rfl (.one rfl) rfl rfl (.t (.t (.t (.t (.h (.n)))))) (.t (.h))) rfl ?_
            refine LW.nil ?_
            refine KW.thenN ?_
            refine KW.arrShut (a := { a with broken := a.broken + 1 }) 2 5 rfl rfl (by decide) rfl ?_
            exact KW.meet [0, 1, 2, 3] hMm ⟨rfl, rfl⟩ ⟨rfl, rfl, rfl, rfl, trivial⟩ rfl rfl
        · rw [if_neg (fun q => hw q.1), if_neg (fun q => he q.1), if_neg (fun q => hw q.1)] at hp
          rw [hp] at hMm
          refine CW.seq ?_
          refine CW.region ?_
          refine LW.v (ov_fieldAddr fo85_4 rfl) ?_
          refine LW.v (ov_loadR 3 ta3 rfl rfl rfl) ?_
          refine LW.v (OpV.eq (ov_eql rfl rfl) (congrArg Value.bool (decide_eq_false (by first | omega | assumption)))) ?_
          refine LW.v (ov_move rfl) ?_
          refine LW.skip rfl rfl ?_
          refine LW.skip rfl rfl ?_
          first | refine LW.v (ov_pickT rfl rfl) ?_ | refine LW.v (ov_pickF rfl rfl) ?_ | refine LW.v (ov_pick rfl rfl rfl) ?_
          refine LW.v (ov_assign rfl) ?_
          refine LW.nil ?_
          refine KW.thenN ?_
          refine CW.seq ?_
          refine CW.seq ?_
          refine CW.region ?_
          refine LW.v (ov_move rfl) ?_
          refine LW.v (OpV.eq (ov_eql rfl rfl) (congrArg Value.bool (decide_eq_false (by first | omega | assumption)))) ?_
          refine LW.v (ov_move rfl) ?_
          refine LW.skip rfl rfl ?_
          refine LW.skip rfl rfl ?_
          refine LW.skip rfl rfl ?_
          refine LW.skip rfl rfl ?_
          refine LW.skip rfl rfl ?_
          refine LW.skip rfl rfl ?_
          refine LW.skip rfl rfl ?_
          first | refine LW.v (ov_pickT rfl rfl) ?_ | refine LW.v (ov_pickF rfl rfl) ?_ | refine LW.v (ov_pick rfl rfl rfl) ?_
          refine LW.nil ?_
          refine KW.thenN ?_
          refine CW.condF rfl rfl ?_
          refine CW.seq ?_
          refine CW.region ?_
          refine LW.v (ov_move rfl) ?_
          refine LW.v (ov_not rfl) ?_
          refine LW.nil ?_
          refine KW.thenN ?_
          refine CW.condT rfl rfl ?_
          refine KW.arrOpen 2 rfl (fun ad c => ?_)
          simp only [List.set_cons_succ, List.set_cons_zero, List.cons_append, List.nil_append]
          refine CW.region ?_
          refine LW.v (ov_move rfl) ?_
          refine LW.v (ov_nilP rfl) ?_
          refine LW.v (ov_fieldAddr fo33_5 rfl) ?_
          refine LW.v (ov_loadR 2 ta3 rfl rfl rfl) ?_
          first | refine LW.v (ov_add rfl rfl (by omega)) ?_ | refine LW.v (ov_addW rfl rfl) ?_
          refine LW.v (ov_nilP rfl) ?_
          refine LW.v (ov_fieldAddr fo33_5 rfl) ?_
          refine LW.opU (ou_storeW ta3 rfl rfl (.one rfl) rfl rfl (.t (.t (.t (.t (.t (.h (.n))))))) (.t (.t (.h)))) rfl ?_
          refine LW.nil ?_
          refine KW.thenN ?_
          refine CW.seq ?_
          refine CW.region ?_
          refine LW.v (ov_move rfl) ?_
          refine LW.v (ov_not rfl) ?_
          refine LW.nil ?_
          refine KW.thenN ?_
          refine CW.condT rfl rfl ?_
          refine CW.region ?_
          refine LW.v (ov_move rfl) ?_
          refine LW.v (ov_move rfl) ?_
          refine LW.v (ov_nilP rfl) ?_
          refine LW.v (ov_fieldAddr fo80_3 rfl) ?_
          refine LW.opU (ou_storeF ta4 rfl rfl (.one rfl) rfl rfl (.t (.t (.t (.h (.n))))) (.t (.h))) rfl ?_
          refine LW.v (ov_nilP rfl) ?_
          refine LW.v (ov_fieldAddr fo80_4 rfl) ?_
          refine LW.opU (ou_storeF ta9 rfl rfl (.one rfl) rfl rfl (.t (.t (.t (.t (.h (.n)))))) (.t (.h))) rfl ?_
          refine LW.nil ?_
          refine KW.thenN ?_
          refine KW.arrShut (a := { a with broken := a.broken + 1 }) 2 5 rfl rfl (by decide) rfl ?_
          exact KW.meet [0, 1, 2, 3] hMm ⟨rfl, rfl⟩ ⟨rfl, rfl, rfl, rfl, trivial⟩ rfl rfl
  rintro _ _ ⟨rfl, rfl⟩
  have hpl : (partR s a f).2.pks.length ≤ 1001 ∧ 0 ≤ (partR s a f).2.broken ∧ (partR s a f).2.broken ≤ 1001 := by
    unfold partR
    split
    · simp only
      split
      · have := dlv_len a (getK (s.part ++ f.data.take (min f.first f.data.length).toNat)).1.apid (s.part ++ f.data.take (min f.first f.data.length).toNat)
        simp only [dlv_broken]; omega
      · split
        · omega
        · simp only; omega
    · simp only; omega
  generalize partR s a f = r at hpl ⊢
  obtain ⟨s1, a1⟩ := r
  simp only at hpl ⊢
  by_cases hw : f.first = 2047
  · rw [if_pos hw]
    refine CW.seq ?_
    refine CW.seq ?_
    refine CW.region ?_
    refine LW.v (ov_fieldAddr fo85_4 rfl) ?_
    refine LW.v (ov_loadR 3 ta3 rfl rfl rfl) ?_
    refine LW.v (OpV.eq (ov_eql rfl rfl) (congrArg Value.bool (decide_eq_true (by first | omega | assumption)))) ?_
    refine LW.nil ?_
    refine KW.thenN ?_
    refine CW.condT rfl rfl ?_
    refine CW.ret ?_
    refine KW.thenR ?_
    exact KW.retF (.nil) [1, 2] rfl rfl (rfl)
  · rw [if_neg hw]
    have hdk : (f.data.drop k).length = f.data.length - k := List.length_drop
    generalize hG : goR (f.data.drop k).length (f.data.drop k) s1 a1 = G
    refine CW.seq ?_
    refine CW.seq ?_
    refine CW.region ?_
    refine LW.v (ov_fieldAddr fo85_4 rfl) ?_
    refine LW.v (ov_loadR 3 ta3 rfl rfl rfl) ?_
    refine LW.v (OpV.eq (ov_eql rfl rfl) (congrArg Value.bool (decide_eq_false (by first | omega | assumption)))) ?_
    refine LW.nil ?_
    refine KW.thenN ?_
    refine CW.condF rfl rfl ?_
    refine CW.skip ?_
    refine KW.thenN ?_
    refine CW.block ?_
    refine CW.loopW (fun r env As => ∃ (i : Nat) (s2 : Snk) (a2 : Arr), i ≤ f.data.length ∧ f.data.length - i ≤ r ∧ r ≤ 100000 ∧ a2.pks.length + (f.data.length - i) ≤ 200000 ∧ 0 ≤ a2.broken ∧ a2.broken ≤ 1001 ∧ goR r (f.data.drop i) s2 a2 = G ∧ env = [(1, P1 d off), (2, P1 o 0), (7, P1 b7 0), (8, .int .i64 i)] ∧
      As = [ex g0, rowF d 83 off (snkC s2) pre post, arrA o a2, tfR b7 f]) (f.data.drop k).length [0, 1, 2, 3] ⟨k, s1, a1, hkl, by omega, by omega, by omega, by omega, by omega, hG, rfl, rfl⟩ ⟨rfl, rfl, rfl, rfl, trivial⟩ rfl rfl ?_
    rintro r _ _ ⟨i, s2, a2, hil, hir, hr, hal, hb1, hb2, hGr, rfl, rfl⟩
    clear hG
    refine CW.seq ?_
    refine CW.seq ?_
    refine CW.region ?_
    refine LW.v (ov_move rfl) ?_
    refine LW.v (ov_fieldAddr fo85_5 rfl) ?_
    refine LW.v (ov_loadR 3 ta9 rfl rfl rfl) ?_
    refine LW.v (ov_lenS un9 rfl) ?_
    refine LW.v (ov_lss rfl rfl) ?_
    refine LW.nil ?_
    refine KW.thenN ?_
    refine CW.condD (by rfl) (fun h => ?_) (fun h => ?_)
    · have hdi : (f.data.drop i).length = f.data.length - i := List.length_drop
      have hne : f.data.drop i ≠ [] := by intro q; rw [q] at hdi; simp at hdi; omega
      obtain ⟨n, rfl⟩ : ∃ n, r = n + 1 := ⟨r - 1, by omega⟩
      rw [goR, if_neg hne] at hGr
      have htk := @takeK_len (f.data.drop i)
      have hcall := RTake_ok (l := f.data.drop i) (by omega)
      generalize takeK (f.data.drop i) = t at hGr htk hcall
      obtain ⟨p, m, e⟩ := t
      simp only at hGr htk hcall
      refine CW.skip ?_
      refine KW.thenN ?_
      refine CW.block ?_
      refine CW.seq ?_
      refine CW.region ?_
      refine LW.v (ov_fieldAddr fo85_5 rfl) ?_
      refine LW.v (ov_loadR 3 ta9 rfl rfl rfl) ?_
      refine LW.v (ov_move rfl) ?_
      refine LW.v (OpV.eq (ov_ssLo un9 rfl rfl (by omega)) (congrArg S (show _ = f.data.drop i by rw [Int.toNat_natCast]))) ?_
      refine LW.call [] (oc_fn cf63 rfl) rfl rfl rfl rfl (hcall) ?_
      rintro _ _ ⟨rfl, rfl⟩
      simp only [putBack, List.append_nil]
      refine LW.v (ov_move rfl) ?_
      refine LW.v (ov_extract rfl rfl) ?_
      refine LW.v (ov_extract rfl rfl) ?_
      refine LW.v (ov_extract rfl rfl) ?_
      refine LW.opBA (ob_alloc zc110 (fun _ => .c (.c (.c (.c (.n)))))) rfl rfl (fun b13 => ?_)
      refine LW.opU (ou_storeW ta110 rfl rfl .agg rfl rfl (.h (.h (.h (.h (.h (.n)))))) (.t (.t (.t (.t (.h)))))) rfl ?_
      refine LW.v (ov_assign rfl) ?_
      refine LW.v (ov_assign rfl) ?_
      refine LW.nil ?_
      refine KW.thenN ?_
      refine CW.seq ?_
      refine CW.seq ?_
      refine CW.region ?_
      refine LW.v (ov_move rfl) ?_
      refine LW.v (ov_eql rfl rfl) ?_
      refine LW.nil ?_
      refine KW.thenN ?_
      refine CW.condD (by rfl) (fun h2 => ?_) (fun h2 => ?_)
      · rw [if_pos h2] at hGr
        subst hGr
        refine CW.seq ?_
        refine CW.draw [3] rfl mixed rfl (ls := #[false, false, false, false, false, false, false, false, false, false, false, false]) (by kernel_rfl) ?_
        refine DW.tk 0 [3] rfl (ov_move rfl) ?_
        refine DW.tk 1 [3] rfl (ov_move rfl) ?_
        refine DW.tk 2 [3] rfl (ov_fieldAddr fo85_5 rfl) ?_
        refine DW.tk 3 [3] rfl (ov_loadR 0 ta9 rfl rfl rfl) ?_
        refine DW.tk 4 [3] rfl (ov_move rfl) ?_
        refine DW.tk 5 [3] rfl (OpV.eq (ov_ssLo un9 rfl rfl (by omega)) (congrArg S (show _ = f.data.drop i by rw [Int.toNat_natCast]))) ?_
        first | refine DW.tk 6 [3] rfl (ov_nilP rfl) ?_ | refine DW.tk 6 [3] rfl (ov_nilF rfl) ?_
        refine DW.tk 7 [3] rfl (ov_fieldAddr fo80_3 rfl) ?_
        refine DW.all1 8 (by kernel_rfl) ?_
        refine DO.opU [3] rfl (ou_storeF ta4 rfl rfl (.one rfl) rfl rfl (.t (.t (.t (.h (.n))))) (.t (.h))) rfl rfl rfl rfl ?_
        first | refine DW.tk 9 [3] rfl (ov_nilP rfl) ?_ | refine DW.tk 9 [3] rfl (ov_nilF rfl) ?_
        refine DW.tk 10 [3] rfl (ov_fieldAddr fo80_4 rfl) ?_
        refine DW.all1 11 (by kernel_rfl) ?_
        refine DO.opU [3] rfl (ou_storeF ta9 rfl rfl (.one rfl) rfl rfl (.t (.t (.t (.t (.h (.n)))))) (.t (.h))) rfl rfl rfl rfl ?_
        refine DW.done (by kernel_rfl) ?_
        refine KW.thenN ?_
        refine CW.ret ?_
        refine KW.thenR ?_
        refine KW.blockR ?_
        refine KW.thenR ?_
        refine KW.blockR ?_
        exact KW.retF (.nil) [1, 2] rfl rfl (rfl)
      rw [if_neg h2] at hGr
      refine CW.skip ?_
      refine KW.thenN ?_
      refine CW.seq ?_
      refine CW.seq ?_
      refine CW.region ?_
      refine LW.v (ov_move rfl) ?_
      refine LW.v (ov_neq rfl rfl) ?_
      refine LW.nil ?_
      refine KW.thenN ?_
      refine CW.condD (by rfl) (fun h3 => ?_) (fun h3 => ?_)
      · rw [if_pos h3] at hGr
        subst hGr
        refine KW.arrOpen 2 rfl (fun ad c => ?_)
        simp only [List.set_cons_succ, List.set_cons_zero, List.cons_append, List.nil_append]
        refine CW.seq ?_
        refine CW.region ?_
        refine LW.v (ov_move rfl) ?_
        refine LW.v (ov_nilP rfl) ?_
        refine LW.v (ov_fieldAddr fo33_5 rfl) ?_
        refine LW.v (ov_loadR 2 ta3 rfl rfl rfl) ?_
        first | refine LW.v (ov_add rfl rfl (by omega)) ?_ | refine LW.v (ov_addW rfl rfl) ?_
        refine LW.v (ov_nilP rfl) ?_
        refine LW.v (ov_fieldAddr fo33_5 rfl) ?_
        refine LW.opU (ou_storeW ta3 rfl rfl (.one rfl) rfl rfl (.t (.t (.t (.t (.t (.h (.n))))))) (.t (.t (.h)))) rfl ?_
        refine LW.nil ?_
        refine KW.thenN ?_
        refine CW.ret ?_
        refine KW.thenR ?_
        refine KW.blockR ?_
        refine KW.thenR ?_
        refine KW.blockR ?_
        refine KW.arrShut (a := { a2 with broken := a2.broken + 1 }) 2 5 rfl rfl (by decide) rfl ?_
        exact KW.retF (.nil) [1, 2] rfl rfl (rfl)
      rw [if_neg h3] at hGr
      have he : e = 0 := Decidable.of_not_not h3
      obtain ⟨hm1, hm2⟩ := htk he
      have hdd : (f.data.drop i).drop m = f.data.drop (i + m) := List.drop_drop
      rw [hdd] at hGr
      have hdl2 := dlv_len a2 (getK ((f.data.drop i).take m)).1.apid ((f.data.drop i).take m)
      refine CW.skip ?_
      refine KW.thenN ?_
      refine CW.seq ?_
      refine CW.region ?_
      refine LW.v (ov_move rfl) ?_
      refine LW.v (ov_fieldAddr fo85_5 rfl) ?_
      refine LW.v (ov_loadR 3 ta9 rfl rfl rfl) ?_
      refine LW.v (ov_move rfl) ?_
      refine LW.v (ov_move rfl) ?_
      refine LW.v (ov_move rfl) ?_
      refine LW.v (OpV.eq (ov_add rfl rfl (by omega)) (congrArg (Value.int .i64) (show (i : Int) + (m : Int) = ((i + m : Nat) : Int) from rfl))) ?_
      refine LW.v (OpV.eq (ov_ssLH un9 rfl rfl rfl (by omega)) (congrArg S (show _ = (f.data.drop i).take m by rw [Int.toNat_natCast, show (((i + m : Nat) : Int) - (i : Int)).toNat = m by omega]))) ?_
      refine LW.call [2] (oc_fn cf64 rfl) rfl rfl rfl rfl (arrived_ok (b := (f.data.drop i).take m) (by rw [List.length_take]; omega) (by omega)) ?_
      rintro _ _ rfl
      simp only [putBack, List.set_cons_succ, List.set_cons_zero, List.append_nil]
      refine LW.nil ?_
      refine KW.thenN ?_
      refine CW.region ?_
      refine LW.v (ov_move rfl) ?_
      refine LW.v (ov_move rfl) ?_
      refine LW.v (OpV.eq (ov_add rfl rfl (by omega)) (congrArg (Value.int .i64) (show (i : Int) + (m : Int) = ((i + m : Nat) : Int) from rfl))) ?_
      refine LW.v (ov_assign rfl) ?_
      refine LW.nil ?_
      refine KW.blockN ?_
      exact KW.again n [0, 1, 2, 3] (by omega) ⟨i + m, s2, dlv a2 (getK ((f.data.drop i).take m)).1.apid ((f.data.drop i).take m), by omega, by omega, by omega, by omega, by rw [dlv_broken]; omega, by rw [dlv_broken]; omega, hGr, rfl, rfl⟩ ⟨rfl, rfl, rfl, rfl, trivial⟩ rfl rfl
    · have hnil : f.data.drop i = [] := List.drop_eq_nil_of_le (by omega)
      have hG0 : G = (s2, a2) := by rw [← hGr, hnil]; cases r <;> rfl
      subst hG0
      refine CW.exit ?_
      refine KW.thenX ?_
      refine KW.thenX ?_
      refine KW.hit ?_
      exact KW.endF (.nil) [1, 2] rfl rfl (rfl)
end Sx
end Go.Proofs.Ytdgphamhpjnmpaa

/- The reference's demux: Feed. -/
namespace Go.Proofs.Ytdgphamhpjnmpaa
namespace Sx

theorem rfeed_ok {d : Nat} {D : Dm} {b : List UInt8} (hb : b.length ≤ 2000) (hm : 0 ≤ D.master ∧ D.master ≤ 255) (hl : D.sinks.length = 8) (hs : ∀ s ∈ D.sinks, 0 ≤ s.count ∧ s.count ≤ 255 ∧ (s.begun = true → s.part.length ≤ 3000)) :
    Fn Try.prog 12 #[P1 d 0, S b] [dmr 83 d D]
      (Ret fun v Q => ∃ ad c, v = .tuple #[arrV ad c (feedF fieldF D b).1.1, .int .i64 (feedF fieldF D b).1.2] ∧ Q = [dmr 83 d (feedF fieldF D b).2, pown ad c (feedF fieldF D b).1.1]) := by
  generalize hF : feedF fieldF D b = F
  rw [feedF] at hF
  have hget := RGet_ok (s := b) (by omega)
  have hok := @getT_ok b
  generalize getT b = r at hF hget hok
  obtain ⟨f, e⟩ := r
  obtain ⟨craft, size, known, master, L⟩ := D
  simp only at hF hget hok hm hl hs
  simp only [dmr]
  refine Fn.of (args := _) Try.func12 rfl Try.ntmps12 rfl ?_
  intro w0 g0
  refine KW.turn (fun w hw => hw.nil1 (A := pown none 0 a00) (fun g => ownS_nil _ _ g)) ?_
  simp only [List.cons_append, List.nil_append]
  refine CW.seq ?_
  refine CW.region ?_
  refine LW.opBA (ob_alloc zc33 (fun _ => .c (.c (.c (.n))))) rfl rfl (fun b4 => ?_)
  refine LW.v (ov_assign rfl) ?_
  refine LW.nil ?_
  refine KW.thenN ?_
  refine CW.seq ?_
  refine CW.region ?_
  refine LW.v (ov_move rfl) ?_
  refine LW.call [] (oc_fn cf33 rfl) rfl rfl rfl rfl (hget) ?_
  rintro _ _ ⟨rfl, rfl⟩
  simp only [putBack, List.append_nil]
  refine LW.v (ov_move rfl) ?_
  refine LW.v (ov_extract rfl rfl) ?_
  refine LW.v (ov_extract rfl rfl) ?_
  refine LW.opBA (ob_alloc zc85 (fun _ => .c (.c (.c (.c (.n)))))) rfl rfl (fun b6 => ?_)
  refine LW.opU (ou_storeW ta85 rfl rfl .agg rfl rfl (.h (.h (.h (.h (.h (.h (.h (.n)))))))) (.t (.t (.t (.t (.h)))))) rfl ?_
  refine LW.v (ov_assign rfl) ?_
  refine LW.nil ?_
  refine KW.thenN ?_
  refine CW.seq ?_
  refine CW.seq ?_
  refine CW.region ?_
  refine LW.v (ov_move rfl) ?_
  refine LW.v (ov_neq rfl rfl) ?_
  refine LW.nil ?_
  refine KW.thenN ?_
  refine CW.condD (by rfl) (fun h => ?_) (fun h => ?_)
  · rw [if_pos h] at hF
    subst hF
    refine CW.seq ?_
    refine CW.region ?_
    refine LW.v (ov_build zc33 pl33 rfl (.n)) ?_
    refine LW.v (ov_move rfl) ?_
    refine LW.opU (ou_storeW ta33 rfl rfl .agg rfl rfl (.h (.h (.h (.h (.h (.h (.h (.n)))))))) (.t (.t (.t (.h))))) rfl ?_
    refine LW.v (ov_assign rfl) ?_
    refine LW.nil ?_
    refine KW.thenN ?_
    refine CW.ret ?_
    refine KW.thenR ?_
    exact KW.retF (.cons (ResV.cellA 3 ta33 rfl rfl (.h (.h (.h (.h (.h (.h (.h (.n))))))))) (.cons (.tmp rfl) (.nil))) [1, 2] rfl rfl (⟨none, 0, rfl, rfl⟩)
  have he : e = 0 := Decidable.of_not_not h
  rw [if_neg h] at hF
  have hfo := hok he
  clear hok
  unfold Tf.ok at hfo
  by_cases hx : f.craft = craft ∧ (f.data.length : Int) = size
  rotate_left
  · rw [if_pos (by omega)] at hF
    subst hF
    by_cases hc : f.craft = craft
    · refine CW.skip ?_
      refine KW.thenN ?_
      refine CW.seq ?_
      refine CW.seq ?_
      refine CW.draw [1,4] rfl mixed rfl (ls := #[false, false, false, false, false, false, false, false, false, false, false, false, false, false, false, false, false]) (by kernel_rfl) ?_
      refine DW.tk 0 [1,4] rfl (ov_fieldAddr fo85_0 rfl) ?_
      refine DW.tk 1 [1,4] rfl (ov_loadR 1 ta3 rfl rfl rfl) ?_
      refine DW.tk 2 [1,4] rfl (ov_move rfl) ?_
      first | refine DW.tk 3 [1,4] rfl (ov_nilP rfl) ?_ | refine DW.tk 3 [1,4] rfl (ov_nilF rfl) ?_
      refine DW.tk 4 [1,4] rfl (ov_fieldAddr fo83_0 rfl) ?_
      refine DW.tk 5 [1,4] rfl (ov_loadR 0 ta3 rfl rfl rfl) ?_
      refine DW.tk 6 [1,4] rfl (OpV.eq (ov_neq rfl rfl) (congrArg Value.bool (decide_eq_false (by first | omega | assumption)))) ?_
      refine DW.tk 7 [1,4] rfl (ov_move rfl) ?_
      refine DW.tk 8 [1,4] rfl (ov_fieldAddr fo85_5 rfl) ?_
      refine DW.tk 9 [1,4] rfl (ov_loadR 1 ta9 rfl rfl rfl) ?_
      refine DW.tk 10 [1,4] rfl (ov_lenS un9 rfl) ?_
      refine DW.tk 11 [1,4] rfl (ov_move rfl) ?_
      first | refine DW.tk 12 [1,4] rfl (ov_nilP rfl) ?_ | refine DW.tk 12 [1,4] rfl (ov_nilF rfl) ?_
      refine DW.tk 13 [1,4] rfl (ov_fieldAddr fo83_1 rfl) ?_
      refine DW.tk 14 [1,4] rfl (ov_loadR 0 ta3 rfl rfl rfl) ?_
      refine DW.tk 15 [1,4] rfl (OpV.eq (ov_neq rfl rfl) (congrArg Value.bool (decide_eq_true (by first | omega | assumption)))) ?_
      first | refine DW.tk 16 [1,4] rfl (ov_pickT rfl rfl) ?_ | refine DW.tk 16 [1,4] rfl (ov_pickF rfl rfl) ?_ | refine DW.tk 16 [1,4] rfl (ov_pick rfl rfl rfl) ?_
      refine DW.done (by kernel_rfl) ?_
      refine KW.thenN ?_
      refine CW.condT rfl rfl ?_
      refine CW.seq ?_
      refine CW.region ?_
      refine LW.v (ov_build zc33 pl33 rfl (.n)) ?_
      refine LW.opU (ou_storeW ta33 rfl rfl .agg rfl rfl (.h (.h (.h (.h (.h (.h (.h (.n)))))))) (.t (.t (.t (.h))))) rfl ?_
      refine LW.v (ov_assign rfl) ?_
      refine LW.nil ?_
      refine KW.thenN ?_
      refine CW.ret ?_
      refine KW.thenR ?_
      exact KW.retF (.cons (ResV.cellA 3 ta33 rfl rfl (.h (.h (.h (.h (.h (.h (.h (.n))))))))) (.cons (.tmp rfl) (.nil))) [1, 2] rfl rfl (⟨none, 0, rfl, rfl⟩)
    · refine CW.skip ?_
      refine KW.thenN ?_
      refine CW.seq ?_
      refine CW.seq ?_
      refine CW.draw [1,4] rfl mixed rfl (ls := #[false, false, false, false, false, false, false, false, false, false, false, false, false, false, false, false, false]) (by kernel_rfl) ?_
      refine DW.tk 0 [1,4] rfl (ov_fieldAddr fo85_0 rfl) ?_
      refine DW.tk 1 [1,4] rfl (ov_loadR 1 ta3 rfl rfl rfl) ?_
      refine DW.tk 2 [1,4] rfl (ov_move rfl) ?_
      first | refine DW.tk 3 [1,4] rfl (ov_nilP rfl) ?_ | refine DW.tk 3 [1,4] rfl (ov_nilF rfl) ?_
      refine DW.tk 4 [1,4] rfl (ov_fieldAddr fo83_0 rfl) ?_
      refine DW.tk 5 [1,4] rfl (ov_loadR 0 ta3 rfl rfl rfl) ?_
      refine DW.tk 6 [1,4] rfl (OpV.eq (ov_neq rfl rfl) (congrArg Value.bool (decide_eq_true (by first | omega | assumption)))) ?_
      refine DW.tk 7 [1,4] rfl (ov_move rfl) ?_
      refine DW.skip 8 [1,4] rfl (by kernel_rfl) (by kernel_rfl) (by kernel_rfl) (fun _ _ _ h => h) rfl rfl rfl rfl rfl ?_
      refine DW.skip 9 [1,4] rfl (by kernel_rfl) (by kernel_rfl) (by kernel_rfl) (fun _ _ _ h => h) rfl rfl rfl rfl rfl ?_
      refine DW.skip 10 [1,4] rfl (by kernel_rfl) (by kernel_rfl) (by kernel_rfl) (fun _ _ _ h => h) rfl rfl rfl rfl rfl ?_
      refine DW.skip 11 [1,4] rfl (by kernel_rfl) (by kernel_rfl) (by kernel_rfl) (fun _ _ _ h => h) rfl rfl rfl rfl rfl ?_
      refine DW.skip 12 [1,4] rfl (by kernel_rfl) (by kernel_rfl) (by kernel_rfl) (fun _ _ _ h => h) rfl rfl rfl rfl rfl ?_
      refine DW.skip 13 [1,4] rfl (by kernel_rfl) (by kernel_rfl) (by kernel_rfl) (fun _ _ _ h => h) rfl rfl rfl rfl rfl ?_
      refine DW.skip 14 [1,4] rfl (by kernel_rfl) (by kernel_rfl) (by kernel_rfl) (fun _ _ _ h => h) rfl rfl rfl rfl rfl ?_
      refine DW.skip 15 [1,4] rfl (by kernel_rfl) (by kernel_rfl) (by kernel_rfl) (fun _ _ _ h => h) rfl rfl rfl rfl rfl ?_
      first | refine DW.tk 16 [1,4] rfl (ov_pickT rfl rfl) ?_ | refine DW.tk 16 [1,4] rfl (ov_pickF rfl rfl) ?_ | refine DW.tk 16 [1,4] rfl (ov_pick rfl rfl rfl) ?_
      refine DW.done (by kernel_rfl) ?_
      refine KW.thenN ?_
      refine CW.condT rfl rfl ?_
      refine CW.seq ?_
      refine CW.region ?_
      refine LW.v (ov_build zc33 pl33 rfl (.n)) ?_
      refine LW.opU (ou_storeW ta33 rfl rfl .agg rfl rfl (.h (.h (.h (.h (.h (.h (.h (.n)))))))) (.t (.t (.t (.h))))) rfl ?_
      refine LW.v (ov_assign rfl) ?_
      refine LW.nil ?_
      refine KW.thenN ?_
      refine CW.ret ?_
      refine KW.thenR ?_
      exact KW.retF (.cons (ResV.cellA 3 ta33 rfl rfl (.h (.h (.h (.h (.h (.h (.h (.n))))))))) (.cons (.tmp rfl) (.nil))) [1, 2] rfl rfl (⟨none, 0, rfl, rfl⟩)
  obtain ⟨rfl, rfl⟩ := hx
  rw [if_neg (by omega)] at hF
  obtain ⟨k, hk⟩ : ∃ k : Nat, f.chan = (k : Int) := ⟨f.chan.toNat, by omega⟩
  have hk8 : k < 8 := by omega
  obtain ⟨s, hsk⟩ : ∃ s, L[k]? = some s := ⟨_, List.getElem?_eq_getElem (by omega)⟩
  have hsm := hs s (List.mem_of_getElem? hsk)
  have hkn : f.chan.toNat = k := by omega
  rw [hkn, hsk] at hF
  simp only [frameF, hkn] at hF
  refine CW.skip ?_
  refine KW.thenN ?_
  refine CW.seq ?_
  refine CW.seq ?_
  refine CW.draw [1,4] rfl mixed rfl (ls := #[false, false, false, false, false, false, false, false, false, false, false, false, false, false, false, false, false]) (by kernel_rfl) ?_
  refine DW.tk 0 [1,4] rfl (ov_fieldAddr fo85_0 rfl) ?_
  refine DW.tk 1 [1,4] rfl (ov_loadR 1 ta3 rfl rfl rfl) ?_
  refine DW.tk 2 [1,4] rfl (ov_move rfl) ?_
  first | refine DW.tk 3 [1,4] rfl (ov_nilP rfl) ?_ | refine DW.tk 3 [1,4] rfl (ov_nilF rfl) ?_
  refine DW.tk 4 [1,4] rfl (ov_fieldAddr fo83_0 rfl) ?_
  refine DW.tk 5 [1,4] rfl (ov_loadR 0 ta3 rfl rfl rfl) ?_
  refine DW.tk 6 [1,4] rfl (OpV.eq (ov_neq rfl rfl) (congrArg Value.bool (decide_eq_false (by first | omega | assumption)))) ?_
  refine DW.tk 7 [1,4] rfl (ov_move rfl) ?_
  refine DW.tk 8 [1,4] rfl (ov_fieldAddr fo85_5 rfl) ?_
  refine DW.tk 9 [1,4] rfl (ov_loadR 1 ta9 rfl rfl rfl) ?_
  refine DW.tk 10 [1,4] rfl (ov_lenS un9 rfl) ?_
  refine DW.tk 11 [1,4] rfl (ov_move rfl) ?_
  first | refine DW.tk 12 [1,4] rfl (ov_nilP rfl) ?_ | refine DW.tk 12 [1,4] rfl (ov_nilF rfl) ?_
  refine DW.tk 13 [1,4] rfl (ov_fieldAddr fo83_1 rfl) ?_
  refine DW.tk 14 [1,4] rfl (ov_loadR 0 ta3 rfl rfl rfl) ?_
  refine DW.tk 15 [1,4] rfl (OpV.eq (ov_neq rfl rfl) (congrArg Value.bool (decide_eq_false (by first | omega | assumption)))) ?_
  first | refine DW.tk 16 [1,4] rfl (ov_pickT rfl rfl) ?_ | refine DW.tk 16 [1,4] rfl (ov_pickF rfl rfl) ?_ | refine DW.tk 16 [1,4] rfl (ov_pick rfl rfl rfl) ?_
  refine DW.done (by kernel_rfl) ?_
  refine KW.thenN ?_
  refine CW.condF rfl rfl ?_
  refine CW.skip ?_
  refine KW.thenN ?_
  refine CW.seq ?_
  refine CW.region ?_
  refine LW.v (ov_fieldAddr fo85_1 rfl) ?_
  refine LW.v (ov_loadR 4 ta3 rfl rfl rfl) ?_
  refine LW.v (ov_fieldAddr fo85_6 rfl) ?_
  refine LW.v (ov_loadR 4 ta31 rfl rfl rfl) ?_
  refine LW.v (ov_build zc33 pl33 rfl (.c rfl (.one rfl) rfl (.h (.n)) (.c rfl (.one rfl) rfl (.t (.t (.t (.t (.t (.t (.h (.n)))))))) (.n)))) ?_
  refine LW.opBA (ob_alloc zc33 (fun _ => .c (.c (.c (.c (.c (.n))))))) rfl rfl (fun b8 => ?_)
  refine LW.opU (ou_storeW ta33 rfl rfl .agg rfl rfl (.h (.h (.h (.h (.h (.h (.h (.n)))))))) (.t (.t (.t (.t (.t (.h))))))) rfl ?_
  refine LW.nil ?_
  refine KW.thenN ?_
  refine CW.seq ?_
  refine CW.draw [4] rfl mixed rfl (ls := #[false, false, false, false, false, false, false]) (by kernel_rfl) ?_
  refine DW.tk 0 [4] rfl (ov_move rfl) ?_
  refine DW.tk 1 [4] rfl (ov_fieldAddr fo85_1 rfl) ?_
  refine DW.tk 2 [4] rfl (ov_loadR 0 ta3 rfl rfl rfl) ?_
  first | refine DW.tk 3 [4] rfl (ov_nilP rfl) ?_ | refine DW.tk 3 [4] rfl (ov_nilF rfl) ?_
  refine DW.tk 4 [4] rfl (ov_fieldAddr fo83_4 rfl) ?_
  refine DW.tk 5 [4] rfl (ov_idxA (i := k) ar81 ta80 rfl rfl hk (by omega)) ?_
  refine DW.tk 6 [4] rfl (ov_assign rfl) ?_
  refine DW.done (by kernel_rfl) ?_
  refine KW.thenN ?_
  refine KW.dmIn 1 rfl hsk ?_
  simp only [List.set_cons_succ, List.set_cons_zero]
  refine CW.cut (fun env As => env = [(0, P1 d 0), (1, S b), (4, P1 b4 0), (6, P1 b6 0), (8, P1 b8 0), (9, P1 d (0 + 4 + k * 5))] ∧ ¬(s.known = true ∧ s.frame = b) ∧ As = [ex g0, dmr 83 d ⟨f.craft, f.data.length, known, master, L⟩, pown none 0 a00, arow b4 none 0 a00, tfR b6 f, arow b8 none 0 ⟨f.chan, false, 0, 0, [], 0, f.word⟩]) (fun Mm hMm => ?_) ?_
  · obtain ⟨sk, sf, sc, sb, sp⟩ := s
    simp only at hF hMm
    cases sk with
    | false =>
      refine CW.seq ?_
      refine CW.region ?_
      refine LW.v (ov_move rfl) ?_
      refine LW.v (ov_nilP rfl) ?_
      refine LW.v (ov_fieldAddr fo80_0 rfl) ?_
      refine LW.v (ov_loadF 1 ta4 rfl rfl rfl) ?_
      refine LW.v (ov_move rfl) ?_
      refine LW.skip rfl rfl ?_
      refine LW.skip rfl rfl ?_
      refine LW.skip rfl rfl ?_
      refine LW.skip rfl rfl ?_
      refine LW.skip rfl rfl ?_
      refine LW.skip rfl rfl ?_
      first | refine LW.v (ov_pickT rfl rfl) ?_ | refine LW.v (ov_pickF rfl rfl) ?_ | refine LW.v (ov_pick rfl rfl rfl) ?_
      refine LW.nil ?_
      refine KW.thenN ?_
      refine CW.condF rfl rfl ?_
      refine CW.skip ?_
      refine KW.thenN ?_
      refine KW.dmOut 1 rfl hsk ?_
      rw [set_same hsk]
      exact KW.meet [0, 1, 2, 3, 4, 5] hMm ⟨rfl, by simp, rfl⟩ ⟨rfl, rfl, rfl, rfl, rfl, rfl, trivial⟩ rfl rfl
    | true =>
      by_cases hfr : sf = b
      · rw [if_pos ⟨rfl, hfr⟩] at hF
        subst hF
        refine CW.seq ?_
        refine CW.region ?_
        refine LW.v (ov_move rfl) ?_
        refine LW.v (ov_nilP rfl) ?_
        refine LW.v (ov_fieldAddr fo80_0 rfl) ?_
        refine LW.v (ov_loadF 1 ta4 rfl rfl rfl) ?_
        refine LW.v (ov_move rfl) ?_
        refine LW.v (ov_move rfl) ?_
        refine LW.v (ov_nilP rfl) ?_
        refine LW.v (ov_fieldAddr fo80_1 rfl) ?_
        refine LW.v (ov_loadF 1 ta9 rfl rfl rfl) ?_
        refine LW.v (ov_move rfl) ?_
        refine LW.v (OpV.eq (ov_strEql rfl rfl) (congrArg Value.bool (decide_eq_true (by first | omega | assumption)))) ?_
        first | refine LW.v (ov_pickT rfl rfl) ?_ | refine LW.v (ov_pickF rfl rfl) ?_ | refine LW.v (ov_pick rfl rfl rfl) ?_
        refine LW.nil ?_
        refine KW.thenN ?_
        refine CW.condT rfl rfl ?_
        refine CW.seq ?_
        refine CW.region ?_
        refine LW.v (ov_fieldAddr fo33_1 rfl) ?_
        refine LW.opU (ou_storeW ta4 rfl rfl (.one rfl) rfl rfl (.t (.h (.n))) (.t (.t (.t (.t (.t (.h))))))) rfl ?_
        refine LW.nil ?_
        refine KW.thenN ?_
        refine CW.seq ?_
        refine CW.region ?_
        refine LW.v (ov_loadAR 5 ta33 rfl rfl (.h (.h (.h (.h (.h (.h (.h (.n))))))))) ?_
        refine LW.opU (ou_storeW ta33 rfl rfl .agg rfl rfl (.h (.h (.h (.h (.h (.h (.h (.n)))))))) (.t (.t (.t (.h))))) rfl ?_
        refine LW.v (ov_assign rfl) ?_
        refine LW.nil ?_
        refine KW.thenN ?_
        refine CW.ret ?_
        refine KW.thenR ?_
        refine KW.dmOut 1 rfl hsk ?_
        rw [set_same hsk]
        exact KW.retF (.cons (ResV.cellA 3 ta33 rfl rfl (.h (.h (.h (.h (.h (.h (.h (.n))))))))) (.cons (.tmp rfl) (.nil))) [1, 2] rfl rfl (⟨none, 0, rfl, rfl⟩)
      · refine CW.seq ?_
        refine CW.region ?_
        refine LW.v (ov_move rfl) ?_
        refine LW.v (ov_nilP rfl) ?_
        refine LW.v (ov_fieldAddr fo80_0 rfl) ?_
        refine LW.v (ov_loadF 1 ta4 rfl rfl rfl) ?_
        refine LW.v (ov_move rfl) ?_
        refine LW.v (ov_move rfl) ?_
        refine LW.v (ov_nilP rfl) ?_
        refine LW.v (ov_fieldAddr fo80_1 rfl) ?_
        refine LW.v (ov_loadF 1 ta9 rfl rfl rfl) ?_
        refine LW.v (ov_move rfl) ?_
        refine LW.v (OpV.eq (ov_strEql rfl rfl) (congrArg Value.bool (decide_eq_false (by first | omega | assumption)))) ?_
        first | refine LW.v (ov_pickT rfl rfl) ?_ | refine LW.v (ov_pickF rfl rfl) ?_ | refine LW.v (ov_pick rfl rfl rfl) ?_
        refine LW.nil ?_
        refine KW.thenN ?_
        refine CW.condF rfl rfl ?_
        refine CW.skip ?_
        refine KW.thenN ?_
        refine KW.dmOut 1 rfl hsk ?_
        rw [set_same hsk]
        exact KW.meet [0, 1, 2, 3, 4, 5] hMm ⟨rfl, by simp [hfr], rfl⟩ ⟨rfl, rfl, rfl, rfl, rfl, rfl, trivial⟩ rfl rfl
  rintro _ _ ⟨rfl, hnd, rfl⟩
  rw [if_neg hnd] at hF
  refine CW.cut (fun env As => env = [(0, P1 d 0), (1, S b), (4, P1 b4 0), (6, P1 b6 0), (8, P1 b8 0), (9, P1 d (0 + 4 + k * 5))] ∧ As = [ex g0, dmr 83 d ⟨f.craft, f.data.length, known, master, L⟩, pown none 0 a00, arow b4 none 0 a00, tfR b6 f, arow b8 none 0 ⟨f.chan, false, 0, mis known master f, [], 0, f.word⟩]) (fun Mm hMm => ?_) ?_
  · cases known with
    | false =>
      refine CW.seq ?_
      refine CW.region ?_
      refine LW.v (ov_move rfl) ?_
      refine LW.v (ov_nilP rfl) ?_
      refine LW.v (ov_fieldAddr fo83_2 rfl) ?_
      refine LW.v (ov_loadR 1 ta4 rfl rfl rfl) ?_
      refine LW.nil ?_
      refine KW.thenN ?_
      refine CW.condF rfl rfl ?_
      refine CW.skip ?_
      refine KW.thenN ?_
      exact KW.meet [0, 1, 2, 3, 4, 5] hMm ⟨rfl, rfl⟩ ⟨rfl, rfl, rfl, rfl, rfl, rfl, trivial⟩ rfl rfl
    | true =>
      refine CW.seq ?_
      refine CW.region ?_
      refine LW.v (ov_move rfl) ?_
      refine LW.v (ov_nilP rfl) ?_
      refine LW.v (ov_fieldAddr fo83_2 rfl) ?_
      refine LW.v (ov_loadR 1 ta4 rfl rfl rfl) ?_
      refine LW.nil ?_
      refine KW.thenN ?_
      refine CW.condT rfl rfl ?_
      refine CW.draw [1,4] rfl mixed rfl (ls := #[false, false, false, false, false, false, false, false, false, false, false, false]) (by kernel_rfl) ?_
      refine DW.tk 0 [1,4] rfl (ov_fieldAddr fo85_2 rfl) ?_
      refine DW.tk 1 [1,4] rfl (ov_loadR 1 ta3 rfl rfl rfl) ?_
      refine DW.tk 2 [1,4] rfl (ov_move rfl) ?_
      first | refine DW.tk 3 [1,4] rfl (ov_nilP rfl) ?_ | refine DW.tk 3 [1,4] rfl (ov_nilF rfl) ?_
      refine DW.tk 4 [1,4] rfl (ov_fieldAddr fo83_3 rfl) ?_
      refine DW.tk 5 [1,4] rfl (ov_loadR 0 ta3 rfl rfl rfl) ?_
      refine DW.tk 6 [1,4] rfl (ov_sub (m := f.master) (n := master) rfl rfl (by omega)) ?_
      refine DW.tk 7 [1,4] rfl (ov_sub (m := f.master - master) (n := 1) rfl rfl (by omega)) ?_
      refine DW.tk 8 [1,4] rfl (ov_add (m := f.master - master - 1) (n := 512) rfl rfl (by omega)) ?_
      refine DW.tk 9 [1,4] rfl (OpV.eq (ov_rem rfl rfl (by omega) (by omega)) (congrArg (Value.int .i64) (show (f.master - master - 1 + 512) % 256 = (f.master - master - 1) % 256 by omega))) ?_
      refine DW.tk 10 [1,4] rfl (ov_fieldAddr fo33_3 rfl) ?_
      refine DW.all1 11 (by kernel_rfl) ?_
      refine DO.opU [1,4] rfl (ou_storeW ta3 rfl rfl (.one rfl) rfl rfl (.t (.t (.t (.h (.n))))) (.t (.t (.t (.t (.t (.h))))))) rfl rfl rfl rfl ?_
      refine DW.done (by kernel_rfl) ?_
      refine KW.thenN ?_
      exact KW.meet [0, 1, 2, 3, 4, 5] hMm ⟨rfl, rfl⟩ ⟨rfl, rfl, rfl, rfl, rfl, rfl, trivial⟩ rfl rfl
  rintro _ _ ⟨rfl, rfl⟩
  refine KW.dmIn 1 rfl hsk ?_
  simp only [List.set_cons_succ, List.set_cons_zero]
  refine CW.cut (fun env As => env = [(0, P1 d 0), (1, S b), (4, P1 b4 0), (6, P1 b6 0), (8, P1 b8 0), (9, P1 d (0 + 4 + k * 5))] ∧ As = [ex g0, dmr 83 d ⟨f.craft, f.data.length, known, master, L⟩, pown none 0 a00, arow b4 none 0 a00, tfR b6 f, arow b8 none 0 ⟨f.chan, false, los s f, mis known master f, [], 0, f.word⟩]) (fun Mm hMm => ?_) ?_
  · obtain ⟨sk, sf, sc, sb, sp⟩ := s
    simp only at hMm hsm
    cases sk with
    | false =>
      refine CW.seq ?_
      refine CW.region ?_
      refine LW.v (ov_move rfl) ?_
      refine LW.v (ov_nilP rfl) ?_
      refine LW.v (ov_fieldAddr fo80_0 rfl) ?_
      refine LW.v (ov_loadF 1 ta4 rfl rfl rfl) ?_
      refine LW.nil ?_
      refine KW.thenN ?_
      refine CW.condF rfl rfl ?_
      refine CW.skip ?_
      refine KW.thenN ?_
      refine KW.dmOut 1 rfl hsk ?_
      rw [set_same hsk]
      exact KW.meet [0, 1, 2, 3, 4, 5] hMm ⟨rfl, rfl⟩ ⟨rfl, rfl, rfl, rfl, rfl, rfl, trivial⟩ rfl rfl
    | true =>
      refine CW.seq ?_
      refine CW.region ?_
      refine LW.v (ov_move rfl) ?_
      refine LW.v (ov_nilP rfl) ?_
      refine LW.v (ov_fieldAddr fo80_0 rfl) ?_
      refine LW.v (ov_loadF 1 ta4 rfl rfl rfl) ?_
      refine LW.nil ?_
      refine KW.thenN ?_
      refine CW.condT rfl rfl ?_
      refine CW.draw [1,4] rfl mixed rfl (ls := #[false, false, false, false, false, false, false, false, false, false, false, false]) (by kernel_rfl) ?_
      refine DW.tk 0 [1,4] rfl (ov_fieldAddr fo85_3 rfl) ?_
      refine DW.tk 1 [1,4] rfl (ov_loadR 1 ta3 rfl rfl rfl) ?_
      refine DW.tk 2 [1,4] rfl (ov_move rfl) ?_
      first | refine DW.tk 3 [1,4] rfl (ov_nilP rfl) ?_ | refine DW.tk 3 [1,4] rfl (ov_nilF rfl) ?_
      refine DW.tk 4 [1,4] rfl (ov_fieldAddr fo80_2 rfl) ?_
      refine DW.tk 5 [1,4] rfl (ov_loadF 0 ta3 rfl rfl rfl) ?_
      refine DW.tk 6 [1,4] rfl (ov_sub (m := f.count) (n := sc) rfl rfl (by omega)) ?_
      refine DW.tk 7 [1,4] rfl (ov_sub (m := f.count - sc) (n := 1) rfl rfl (by omega)) ?_
      refine DW.tk 8 [1,4] rfl (ov_add (m := f.count - sc - 1) (n := 512) rfl rfl (by omega)) ?_
      refine DW.tk 9 [1,4] rfl (OpV.eq (ov_rem rfl rfl (by omega) (by omega)) (congrArg (Value.int .i64) (show (f.count - sc - 1 + 512) % 256 = (f.count - sc - 1) % 256 by omega))) ?_
      refine DW.tk 10 [1,4] rfl (ov_fieldAddr fo33_2 rfl) ?_
      refine DW.all1 11 (by kernel_rfl) ?_
      refine DO.opU [1,4] rfl (ou_storeW ta3 rfl rfl (.one rfl) rfl rfl (.t (.t (.h (.n)))) (.t (.t (.t (.t (.t (.h))))))) rfl rfl rfl rfl ?_
      refine DW.done (by kernel_rfl) ?_
      refine KW.thenN ?_
      refine KW.dmOut 1 rfl hsk ?_
      rw [set_same hsk]
      exact KW.meet [0, 1, 2, 3, 4, 5] hMm ⟨rfl, rfl⟩ ⟨rfl, rfl, rfl, rfl, rfl, rfl, trivial⟩ rfl rfl
  rintro _ _ ⟨rfl, rfl⟩
  refine CW.seq ?_
  refine CW.draw [4] rfl mixed rfl (ls := #[false, false, false, false, false, false, false, false, false, false]) (by kernel_rfl) ?_
  refine DW.tk 0 [4] rfl (ov_move rfl) ?_
  refine DW.tk 1 [4] rfl (ov_move rfl) ?_
  refine DW.tk 2 [4] rfl (ov_fieldAddr fo85_2 rfl) ?_
  refine DW.tk 3 [4] rfl (ov_loadR 0 ta3 rfl rfl rfl) ?_
  first | refine DW.tk 4 [4] rfl (ov_nilP rfl) ?_ | refine DW.tk 4 [4] rfl (ov_nilF rfl) ?_
  refine DW.tk 5 [4] rfl (ov_fieldAddr fo83_2 rfl) ?_
  refine DW.all1 6 (by kernel_rfl) ?_
  refine DO.opU [4] rfl (ou_storeW ta4 rfl rfl (.one rfl) rfl rfl (.t (.t (.h (.n)))) (.t (.h))) rfl rfl rfl rfl ?_
  first | refine DW.tk 7 [4] rfl (ov_nilP rfl) ?_ | refine DW.tk 7 [4] rfl (ov_nilF rfl) ?_
  refine DW.tk 8 [4] rfl (ov_fieldAddr fo83_3 rfl) ?_
  refine DW.all1 9 (by kernel_rfl) ?_
  refine DO.opU [4] rfl (ou_storeW ta3 rfl rfl (.one rfl) rfl rfl (.t (.t (.t (.h (.n))))) (.t (.h))) rfl rfl rfl rfl ?_
  refine DW.done (by kernel_rfl) ?_
  refine KW.thenN ?_
  refine CW.seq ?_
  refine KW.dmIn 1 rfl hsk ?_
  simp only [List.set_cons_succ, List.set_cons_zero]
  refine CW.draw [4] rfl mixed rfl (ls := #[false, false, false, false, false, false, false, false, false, false, false, false, false, false, false]) (by kernel_rfl) ?_
  refine DW.tk 0 [4] rfl (ov_move rfl) ?_
  refine DW.tk 1 [4] rfl (ov_move rfl) ?_
  refine DW.tk 2 [4] rfl (ov_move rfl) ?_
  refine DW.tk 3 [4] rfl (ov_move rfl) ?_
  refine DW.tk 4 [4] rfl (ov_fieldAddr fo85_3 rfl) ?_
  refine DW.tk 5 [4] rfl (ov_loadR 0 ta3 rfl rfl rfl) ?_
  first | refine DW.tk 6 [4] rfl (ov_nilP rfl) ?_ | refine DW.tk 6 [4] rfl (ov_nilF rfl) ?_
  refine DW.tk 7 [4] rfl (ov_fieldAddr fo80_0 rfl) ?_
  refine DW.all1 8 (by kernel_rfl) ?_
  refine DO.opU [4] rfl (ou_storeF ta4 rfl rfl (.one rfl) rfl rfl (.h (.n)) (.t (.h))) rfl rfl rfl rfl ?_
  first | refine DW.tk 9 [4] rfl (ov_nilP rfl) ?_ | refine DW.tk 9 [4] rfl (ov_nilF rfl) ?_
  refine DW.tk 10 [4] rfl (ov_fieldAddr fo80_1 rfl) ?_
  refine DW.all1 11 (by kernel_rfl) ?_
  refine DO.opU [4] rfl (ou_storeF ta9 rfl rfl (.one rfl) rfl rfl (.t (.h (.n))) (.t (.h))) rfl rfl rfl rfl ?_
  first | refine DW.tk 12 [4] rfl (ov_nilP rfl) ?_ | refine DW.tk 12 [4] rfl (ov_nilF rfl) ?_
  refine DW.tk 13 [4] rfl (ov_fieldAddr fo80_2 rfl) ?_
  refine DW.all1 14 (by kernel_rfl) ?_
  refine DO.opU [4] rfl (ou_storeF ta3 rfl rfl (.one rfl) rfl rfl (.t (.t (.h (.n)))) (.t (.h))) rfl rfl rfl rfl ?_
  refine DW.done (by kernel_rfl) ?_
  refine KW.thenN ?_
  refine CW.cut (fun env As => env = [(0, P1 d 0), (1, S b), (4, P1 b4 0), (6, P1 b6 0), (8, P1 b8 0), (9, P1 d (0 + 4 + k * 5))] ∧ As = [ex g0, dmF 83 d k (.int .i64 f.craft) (.int .i64 f.data.length) (.bool true) (.int .i64 f.master) L (snk1 s f b), pown none 0 a00, arow b4 none 0 a00, tfR b6 f, arow b8 none 0 (arr1 known master s f)]) (fun Mm hMm => ?_) ?_
  · obtain ⟨sk, sf, sc, sb, sp⟩ := s
    by_cases hlo : los ⟨sk, sf, sc, sb, sp⟩ f = 0
    · have e1 : snk1 ⟨sk, sf, sc, sb, sp⟩ f b = ⟨true, b, f.count, sb, sp⟩ := by rw [snk1, if_neg (fun q => q.1 hlo)]
      have e2 : arr1 known master ⟨sk, sf, sc, sb, sp⟩ f = ⟨f.chan, false, los ⟨sk, sf, sc, sb, sp⟩ f, mis known master f, [], 0, f.word⟩ := by rw [arr1, if_neg (fun q => q.1 hlo)]
      rw [e1, e2] at hMm
      have hlo2 : ¬(los ⟨sk, sf, sc, sb, sp⟩ f ≠ 0) := fun q => q hlo
      refine CW.seq ?_
      refine CW.region ?_
      refine LW.v (ov_fieldAddr fo33_2 rfl) ?_
      refine LW.v (ov_loadR 5 ta3 rfl rfl rfl) ?_
      refine LW.v (OpV.eq (ov_neq rfl rfl) (congrArg Value.bool (decide_eq_false (by first | omega | assumption)))) ?_
      refine LW.v (ov_move rfl) ?_
      refine LW.skip rfl rfl ?_
      refine LW.skip rfl rfl ?_
      refine LW.skip rfl rfl ?_
      refine LW.skip rfl rfl ?_
      first | refine LW.v (ov_pickT rfl rfl) ?_ | refine LW.v (ov_pickF rfl rfl) ?_ | refine LW.v (ov_pick rfl rfl rfl) ?_
      refine LW.nil ?_
      refine KW.thenN ?_
      refine CW.condF rfl rfl ?_
      refine CW.skip ?_
      refine KW.thenN ?_
      exact KW.meet [0, 1, 2, 3, 4, 5] hMm ⟨rfl, rfl⟩ ⟨rfl, rfl, rfl, rfl, rfl, rfl, trivial⟩ rfl rfl
    · cases sb with
      | false =>
        have e1 : snk1 ⟨sk, sf, sc, false, sp⟩ f b = ⟨true, b, f.count, false, sp⟩ := by rw [snk1, if_neg (by simp)]
        have e2 : arr1 known master ⟨sk, sf, sc, false, sp⟩ f = ⟨f.chan, false, los ⟨sk, sf, sc, false, sp⟩ f, mis known master f, [], 0, f.word⟩ := by rw [arr1, if_neg (by simp)]
        rw [e1, e2] at hMm
        refine CW.seq ?_
        refine CW.region ?_
        refine LW.v (ov_fieldAddr fo33_2 rfl) ?_
        refine LW.v (ov_loadR 5 ta3 rfl rfl rfl) ?_
        refine LW.v (OpV.eq (ov_neq rfl rfl) (congrArg Value.bool (decide_eq_true (by first | omega | assumption)))) ?_
        refine LW.v (ov_move rfl) ?_
        refine LW.v (ov_move rfl) ?_
        refine LW.v (ov_nilP rfl) ?_
        refine LW.v (ov_fieldAddr fo80_3 rfl) ?_
        refine LW.v (ov_loadF 1 ta4 rfl rfl rfl) ?_
        first | refine LW.v (ov_pickT rfl rfl) ?_ | refine LW.v (ov_pickF rfl rfl) ?_ | refine LW.v (ov_pick rfl rfl rfl) ?_
        refine LW.nil ?_
        refine KW.thenN ?_
        refine CW.condF rfl rfl ?_
        refine CW.skip ?_
        refine KW.thenN ?_
        exact KW.meet [0, 1, 2, 3, 4, 5] hMm ⟨rfl, rfl⟩ ⟨rfl, rfl, rfl, rfl, rfl, rfl, trivial⟩ rfl rfl
      | true =>
        have e1 : snk1 ⟨sk, sf, sc, true, sp⟩ f b = ⟨true, b, f.count, false, []⟩ := by rw [snk1, if_pos ⟨hlo, rfl⟩]
        have e2 : arr1 known master ⟨sk, sf, sc, true, sp⟩ f = ⟨f.chan, false, los ⟨sk, sf, sc, true, sp⟩ f, mis known master f, [], 1, f.word⟩ := by rw [arr1, if_pos ⟨hlo, rfl⟩]
        rw [e1, e2] at hMm
        refine CW.seq ?_
        refine CW.region ?_
        refine LW.v (ov_fieldAddr fo33_2 rfl) ?_
        refine LW.v (ov_loadR 5 ta3 rfl rfl rfl) ?_
        refine LW.v (OpV.eq (ov_neq rfl rfl) (congrArg Value.bool (decide_eq_true (by first | omega | assumption)))) ?_
        refine LW.v (ov_move rfl) ?_
        refine LW.v (ov_move rfl) ?_
        refine LW.v (ov_nilP rfl) ?_
        refine LW.v (ov_fieldAddr fo80_3 rfl) ?_
        refine LW.v (ov_loadF 1 ta4 rfl rfl rfl) ?_
        first | refine LW.v (ov_pickT rfl rfl) ?_ | refine LW.v (ov_pickF rfl rfl) ?_ | refine LW.v (ov_pick rfl rfl rfl) ?_
        refine LW.nil ?_
        refine KW.thenN ?_
        refine CW.condT rfl rfl ?_
        refine CW.seq ?_
        refine CW.region ?_
        refine LW.v (ov_move rfl) ?_
        refine LW.v (ov_move rfl) ?_
        refine LW.v (ov_nilP rfl) ?_
        refine LW.v (ov_fieldAddr fo80_3 rfl) ?_
        refine LW.opU (ou_storeF ta4 rfl rfl (.one rfl) rfl rfl (.t (.t (.t (.h (.n))))) (.t (.h))) rfl ?_
        refine LW.v (ov_nilP rfl) ?_
        refine LW.v (ov_fieldAddr fo80_4 rfl) ?_
        refine LW.opU (ou_storeF ta9 rfl rfl (.one rfl) rfl rfl (.t (.t (.t (.t (.h (.n)))))) (.t (.h))) rfl ?_
        refine LW.nil ?_
        refine KW.thenN ?_
        refine CW.region ?_
        refine LW.v (ov_fieldAddr fo33_5 rfl) ?_
        refine LW.v (ov_loadR 5 ta3 rfl rfl rfl) ?_
        first | refine LW.v (ov_add rfl rfl (by omega)) ?_ | refine LW.v (ov_addW rfl rfl) ?_
        refine LW.v (ov_fieldAddr fo33_5 rfl) ?_
        refine LW.opU (ou_storeW ta3 rfl rfl (.one rfl) rfl rfl (.t (.t (.t (.t (.t (.h (.n))))))) (.t (.t (.t (.t (.t (.h))))))) rfl ?_
        refine LW.nil ?_
        refine KW.thenN ?_
        exact KW.meet [0, 1, 2, 3, 4, 5] hMm ⟨rfl, rfl⟩ ⟨rfl, rfl, rfl, rfl, rfl, rfl, trivial⟩ rfl rfl
  rintro _ _ ⟨rfl, rfl⟩
  have hsp : (snk1 s f b).begun = true → (snk1 s f b).part.length ≤ 3000 := by
    unfold snk1; split
    · simp
    · exact hsm.2.2
  have hbk : 0 ≤ (arr1 known master s f).broken ∧ (arr1 known master s f).broken ≤ 1 := by
    unfold arr1; simp only; split <;> omega
  have hpk : (arr1 known master s f).pks = [] := rfl
  refine CW.seq ?_
  refine CW.seq ?_
  refine CW.region ?_
  refine LW.v (ov_fieldAddr fo85_4 rfl) ?_
  refine LW.v (ov_loadR 4 ta3 rfl rfl rfl) ?_
  refine LW.v (ov_neq rfl rfl) ?_
  refine LW.nil ?_
  refine KW.thenN ?_
  refine CW.condD (by rfl) (fun h2 => ?_) (fun h2 => ?_)
  · rw [if_pos h2] at hF
    subst hF
    refine KW.arrShut (a := arr1 known master s f) 5 2 rfl rfl (by decide) rfl ?_
    refine CW.region ?_
    refine LW.v (ov_move rfl) ?_
    refine LW.v (ov_move rfl) ?_
    refine LW.v (ov_loadAR 4 ta85 rfl rfl (.h (.h (.h (.h (.h (.h (.h (.n))))))))) ?_
    refine LW.call [1, 5] (oc_fn cf34 rfl) rfl rfl rfl rfl (field_ok (by omega) (by omega) (fun q => Nat.le_trans (hsp q) (by omega)) (by rw [hpk]; exact Nat.zero_le _) (by omega)) ?_
    rintro _ _ rfl
    simp only [putBack, List.set_cons_succ, List.set_cons_zero, List.append_nil]
    refine LW.nil ?_
    refine KW.thenN ?_
    refine KW.arrOpen 5 rfl (fun ad c => ?_)
    refine KW.dmOut 1 rfl hsk ?_
    simp only [List.set_cons_succ, List.set_cons_zero, List.cons_append, List.nil_append]
    refine CW.seq ?_
    refine CW.region ?_
    refine LW.v (ov_loadAR 5 ta33 rfl rfl (.h (.h (.h (.h (.h (.h (.h (.n))))))))) ?_
    refine LW.opU (ou_storeW ta33 rfl rfl .agg rfl rfl (.h (.h (.h (.h (.h (.h (.h (.n)))))))) (.t (.t (.t (.h))))) rfl ?_
    refine LW.v (ov_assign rfl) ?_
    refine LW.nil ?_
    refine KW.thenN ?_
    refine CW.ret ?_
    exact KW.retF (.cons (ResV.cellA 3 ta33 rfl rfl (.h (.h (.h (.h (.h (.h (.h (.n))))))))) (.cons (.tmp rfl) (.nil))) [1, 6] rfl rfl (⟨ad, c, rfl, rfl⟩)
  · rw [if_neg h2] at hF
    subst hF
    refine KW.dmOut 1 rfl hsk ?_
    refine CW.skip ?_
    refine KW.thenN ?_
    refine CW.seq ?_
    refine CW.region ?_
    refine LW.v (ov_loadAR 5 ta33 rfl rfl (.h (.h (.h (.h (.h (.h (.h (.n))))))))) ?_
    refine LW.opU (ou_storeW ta33 rfl rfl .agg rfl rfl (.h (.h (.h (.h (.h (.h (.h (.n)))))))) (.t (.t (.t (.h))))) rfl ?_
    refine LW.v (ov_assign rfl) ?_
    refine LW.nil ?_
    refine KW.thenN ?_
    refine CW.ret ?_
    exact KW.retF (.cons (ResV.cellA 3 ta33 rfl rfl (.h (.h (.h (.h (.h (.h (.h (.n))))))))) (.cons (.tmp rfl) (.nil))) [1, 2] rfl rfl (⟨none, 0, rfl, rfl⟩)
end Sx
end Go.Proofs.Ytdgphamhpjnmpaa

/- New demuxes. -/
namespace Go.Proofs.Ytdgphamhpjnmpaa
namespace Sx

def okD (craft size : Int) : Prop := 0 ≤ craft ∧ craft ≤ 255 ∧ 32 ≤ size ∧ size ≤ 200
instance (a b : Int) : Decidable (okD a b) := by unfold okD; infer_instance
abbrev newD (craft size : Int) : Dm := ⟨craft, size, false, 0, List.replicate 8 ⟨false, [], 0, false, []⟩⟩
theorem newdemux_ok {craft size : Int} : Fn Try.prog 9 #[.int .i64 craft, .int .i64 size] []
    (Ret fun v Q => (okD craft size → ∃ d, v = .tuple #[P1 d 0, .int .i64 0] ∧ Q = [dmr 74 d (newD craft size)]) ∧ (¬okD craft size → v = .tuple #[.pointer none, .int .i64 2])) := by
  unfold okD
  refine Fn.of (args := _) Try.func9 rfl Try.ntmps9 rfl ?_
  intro w0 g0
  by_cases h : 0 ≤ craft ∧ craft ≤ 255 ∧ 32 ≤ size ∧ size ≤ 200
  · refine CW.seq ?_
    refine CW.region ?_
    refine LW.v (ov_assign rfl) ?_
    refine LW.v (ov_assign rfl) ?_
    refine LW.nil ?_
    refine KW.thenN ?_
    refine CW.seq ?_
    refine CW.seq ?_
    refine CW.region ?_
    refine LW.v (ov_move rfl) ?_
    refine LW.v (OpV.eq (ov_lss rfl rfl) (congrArg Value.bool (decide_eq_false (by first | omega | assumption)))) ?_
    refine LW.v (ov_move rfl) ?_
    refine LW.v (ov_move rfl) ?_
    refine LW.v (OpV.eq (ov_gtr rfl rfl) (congrArg Value.bool (decide_eq_false (by first | omega | assumption)))) ?_
    first | refine LW.v (ov_pickT rfl rfl) ?_ | refine LW.v (ov_pickF rfl rfl) ?_ | refine LW.v (ov_pick rfl rfl rfl) ?_
    refine LW.v (ov_move rfl) ?_
    refine LW.v (ov_move rfl) ?_
    refine LW.v (OpV.eq (ov_lss rfl rfl) (congrArg Value.bool (decide_eq_false (by first | omega | assumption)))) ?_
    first | refine LW.v (ov_pickT rfl rfl) ?_ | refine LW.v (ov_pickF rfl rfl) ?_ | refine LW.v (ov_pick rfl rfl rfl) ?_
    refine LW.v (ov_move rfl) ?_
    refine LW.v (ov_move rfl) ?_
    refine LW.v (OpV.eq (ov_gtr rfl rfl) (congrArg Value.bool (decide_eq_false (by first | omega | assumption)))) ?_
    first | refine LW.v (ov_pickT rfl rfl) ?_ | refine LW.v (ov_pickF rfl rfl) ?_ | refine LW.v (ov_pick rfl rfl rfl) ?_
    refine LW.nil ?_
    refine KW.thenN ?_
    refine CW.condF rfl rfl ?_
    refine CW.skip ?_
    refine KW.thenN ?_
    refine CW.seq ?_
    refine CW.region ?_
    refine LW.v (ov_move rfl) ?_
    refine LW.v (ov_move rfl) ?_
    refine LW.v (ov_build zc74 pl74 rfl (.c rfl (.one rfl) rfl (.h (.n)) (.c rfl (.one rfl) rfl (.t (.h (.n))) (.n)))) ?_
    refine LW.opBA (ob_box rfl .agg (fun _ => .c (.n))) rfl rfl (fun b23 => ?_)
    refine LW.v (ov_assign rfl) ?_
    refine LW.v (ov_assign rfl) ?_
    refine LW.nil ?_
    refine KW.thenN ?_
    refine CW.ret ?_
    exact KW.retF (.cons (.tmp rfl) (.cons (.tmp rfl) (.nil))) [1] rfl rfl (⟨fun _ => ⟨b23, rfl, rfl⟩, fun q => absurd h q⟩)
  · refine CW.seq ?_
    refine CW.region ?_
    refine LW.v (ov_assign rfl) ?_
    refine LW.v (ov_assign rfl) ?_
    refine LW.nil ?_
    refine KW.thenN ?_
    refine CW.seq ?_
    refine CW.seq ?_
    refine CW.region ?_
    refine LW.v (ov_move rfl) ?_
    refine LW.v (ov_lss rfl rfl) ?_
    refine LW.v (ov_move rfl) ?_
    first | refine KW.splitD 8 rfl (fun h8 => ?_) (fun h8 => ?_) | refine KW.split 8 rfl (fun h8 => ?_) (fun h8 => ?_)
    · refine LW.skip rfl rfl ?_
      refine LW.skip rfl rfl ?_
      first | refine LW.v (ov_pickT rfl rfl) ?_ | refine LW.v (ov_pickF rfl rfl) ?_ | refine LW.v (ov_pick rfl rfl rfl) ?_
      refine LW.v (ov_move rfl) ?_
      refine LW.skip rfl rfl ?_
      refine LW.skip rfl rfl ?_
      first | refine LW.v (ov_pickT rfl rfl) ?_ | refine LW.v (ov_pickF rfl rfl) ?_ | refine LW.v (ov_pick rfl rfl rfl) ?_
      refine LW.v (ov_move rfl) ?_
      refine LW.skip rfl rfl ?_
      refine LW.skip rfl rfl ?_
      first | refine LW.v (ov_pickT rfl rfl) ?_ | refine LW.v (ov_pickF rfl rfl) ?_ | refine LW.v (ov_pick rfl rfl rfl) ?_
      refine LW.nil ?_
      refine KW.thenN ?_
      refine CW.condT rfl rfl ?_
      refine CW.seq ?_
      refine CW.region ?_
      refine LW.v (ov_assign rfl) ?_
      refine LW.v (ov_assign rfl) ?_
      refine LW.nil ?_
      refine KW.thenN ?_
      refine CW.ret ?_
      refine KW.thenR ?_
      first | (exfalso; omega) | exact KW.retF (.cons (.tmp rfl) (.cons (.tmp rfl) .nil)) [] rfl rfl ⟨fun q => absurd q h, fun _ => rfl⟩
    · refine LW.v (ov_move rfl) ?_
      refine LW.v (ov_gtr rfl rfl) ?_
      first | refine LW.v (ov_pickT rfl rfl) ?_ | refine LW.v (ov_pickF rfl rfl) ?_ | refine LW.v (ov_pick rfl rfl rfl) ?_
      refine LW.v (ov_move rfl) ?_
      first | refine KW.splitD 12 rfl (fun h12 => ?_) (fun h12 => ?_) | refine KW.split 12 rfl (fun h12 => ?_) (fun h12 => ?_)
      · refine LW.skip rfl rfl ?_
        refine LW.skip rfl rfl ?_
        first | refine LW.v (ov_pickT rfl rfl) ?_ | refine LW.v (ov_pickF rfl rfl) ?_ | refine LW.v (ov_pick rfl rfl rfl) ?_
        refine LW.v (ov_move rfl) ?_
        refine LW.skip rfl rfl ?_
        refine LW.skip rfl rfl ?_
        first | refine LW.v (ov_pickT rfl rfl) ?_ | refine LW.v (ov_pickF rfl rfl) ?_ | refine LW.v (ov_pick rfl rfl rfl) ?_
        refine LW.nil ?_
        refine KW.thenN ?_
        refine CW.condT rfl rfl ?_
        refine CW.seq ?_
        refine CW.region ?_
        refine LW.v (ov_assign rfl) ?_
        refine LW.v (ov_assign rfl) ?_
        refine LW.nil ?_
        refine KW.thenN ?_
        refine CW.ret ?_
        refine KW.thenR ?_
        first | (exfalso; omega) | exact KW.retF (.cons (.tmp rfl) (.cons (.tmp rfl) .nil)) [] rfl rfl ⟨fun q => absurd q h, fun _ => rfl⟩
      · refine LW.v (ov_move rfl) ?_
        refine LW.v (ov_lss rfl rfl) ?_
        first | refine LW.v (ov_pickT rfl rfl) ?_ | refine LW.v (ov_pickF rfl rfl) ?_ | refine LW.v (ov_pick rfl rfl rfl) ?_
        refine LW.v (ov_move rfl) ?_
        first | refine KW.splitD 16 rfl (fun h16 => ?_) (fun h16 => ?_) | refine KW.split 16 rfl (fun h16 => ?_) (fun h16 => ?_)
        · refine LW.skip rfl rfl ?_
          refine LW.skip rfl rfl ?_
          first | refine LW.v (ov_pickT rfl rfl) ?_ | refine LW.v (ov_pickF rfl rfl) ?_ | refine LW.v (ov_pick rfl rfl rfl) ?_
          refine LW.nil ?_
          refine KW.thenN ?_
          refine CW.condT rfl rfl ?_
          refine CW.seq ?_
          refine CW.region ?_
          refine LW.v (ov_assign rfl) ?_
          refine LW.v (ov_assign rfl) ?_
          refine LW.nil ?_
          refine KW.thenN ?_
          refine CW.ret ?_
          refine KW.thenR ?_
          first | (exfalso; omega) | exact KW.retF (.cons (.tmp rfl) (.cons (.tmp rfl) .nil)) [] rfl rfl ⟨fun q => absurd q h, fun _ => rfl⟩
        · refine LW.v (ov_move rfl) ?_
          refine LW.v (ov_gtr rfl rfl) ?_
          first | refine LW.v (ov_pickT rfl rfl) ?_ | refine LW.v (ov_pickF rfl rfl) ?_ | refine LW.v (ov_pick rfl rfl rfl) ?_
          refine LW.nil ?_
          refine KW.thenN ?_
          first | refine KW.splitD 19 rfl (fun h19 => ?_) (fun h19 => ?_) | refine KW.split 19 rfl (fun h19 => ?_) (fun h19 => ?_)
          · refine CW.condT rfl rfl ?_
            refine CW.seq ?_
            refine CW.region ?_
            refine LW.v (ov_assign rfl) ?_
            refine LW.v (ov_assign rfl) ?_
            refine LW.nil ?_
            refine KW.thenN ?_
            refine CW.ret ?_
            refine KW.thenR ?_
            first | (exfalso; omega) | exact KW.retF (.cons (.tmp rfl) (.cons (.tmp rfl) .nil)) [] rfl rfl ⟨fun q => absurd q h, fun _ => rfl⟩
          · refine CW.condF rfl rfl ?_
            refine CW.skip ?_
            refine KW.thenN ?_
            refine CW.seq ?_
            refine CW.region ?_
            refine LW.v (ov_move rfl) ?_
            refine LW.v (ov_move rfl) ?_
            refine LW.v (ov_build zc74 pl74 rfl (.c rfl (.one rfl) rfl (.h (.n)) (.c rfl (.one rfl) rfl (.t (.h (.n))) (.n)))) ?_
            refine LW.opBA (ob_box rfl .agg (fun _ => .c (.n))) rfl rfl (fun b23 => ?_)
            refine LW.v (ov_assign rfl) ?_
            refine LW.v (ov_assign rfl) ?_
            refine LW.nil ?_
            refine KW.thenN ?_
            refine CW.ret ?_
            first | (exfalso; omega) | exact KW.retF (.cons (.tmp rfl) (.cons (.tmp rfl) .nil)) [] rfl rfl ⟨fun q => absurd q h, fun _ => rfl⟩
theorem rnewdemux_ok {craft size : Int} : Fn Try.prog 10 #[.int .i64 craft, .int .i64 size] []
    (Ret fun v Q => (okD craft size → ∃ d, v = .tuple #[P1 d 0, .int .i64 0] ∧ Q = [dmr 83 d (newD craft size)]) ∧ (¬okD craft size → v = .tuple #[.pointer none, .int .i64 2])) := by
  unfold okD
  refine Fn.of (args := _) Try.func10 rfl Try.ntmps10 rfl ?_
  intro w0 g0
  by_cases h : 0 ≤ craft ∧ craft ≤ 255 ∧ 32 ≤ size ∧ size ≤ 200
  · refine CW.seq ?_
    refine CW.region ?_
    refine LW.v (ov_assign rfl) ?_
    refine LW.v (ov_assign rfl) ?_
    refine LW.nil ?_
    refine KW.thenN ?_
    refine CW.seq ?_
    refine CW.seq ?_
    refine CW.region ?_
    refine LW.v (ov_move rfl) ?_
    refine LW.v (OpV.eq (ov_lss rfl rfl) (congrArg Value.bool (decide_eq_false (by first | omega | assumption)))) ?_
    refine LW.v (ov_move rfl) ?_
    refine LW.v (ov_move rfl) ?_
    refine LW.v (OpV.eq (ov_gtr rfl rfl) (congrArg Value.bool (decide_eq_false (by first | omega | assumption)))) ?_
    first | refine LW.v (ov_pickT rfl rfl) ?_ | refine LW.v (ov_pickF rfl rfl) ?_ | refine LW.v (ov_pick rfl rfl rfl) ?_
    refine LW.v (ov_move rfl) ?_
    refine LW.v (ov_move rfl) ?_
    refine LW.v (OpV.eq (ov_lss rfl rfl) (congrArg Value.bool (decide_eq_false (by first | omega | assumption)))) ?_
    first | refine LW.v (ov_pickT rfl rfl) ?_ | refine LW.v (ov_pickF rfl rfl) ?_ | refine LW.v (ov_pick rfl rfl rfl) ?_
    refine LW.v (ov_move rfl) ?_
    refine LW.v (ov_move rfl) ?_
    refine LW.v (OpV.eq (ov_gtr rfl rfl) (congrArg Value.bool (decide_eq_false (by first | omega | assumption)))) ?_
    first | refine LW.v (ov_pickT rfl rfl) ?_ | refine LW.v (ov_pickF rfl rfl) ?_ | refine LW.v (ov_pick rfl rfl rfl) ?_
    refine LW.nil ?_
    refine KW.thenN ?_
    refine CW.condF rfl rfl ?_
    refine CW.skip ?_
    refine KW.thenN ?_
    refine CW.seq ?_
    refine CW.region ?_
    refine LW.v (ov_move rfl) ?_
    refine LW.v (ov_move rfl) ?_
    refine LW.v (ov_build zc83 pl83 rfl (.c rfl (.one rfl) rfl (.h (.n)) (.c rfl (.one rfl) rfl (.t (.h (.n))) (.n)))) ?_
    refine LW.opBA (ob_box rfl .agg (fun _ => .c (.n))) rfl rfl (fun b23 => ?_)
    refine LW.v (ov_assign rfl) ?_
    refine LW.v (ov_assign rfl) ?_
    refine LW.nil ?_
    refine KW.thenN ?_
    refine CW.ret ?_
    exact KW.retF (.cons (.tmp rfl) (.cons (.tmp rfl) (.nil))) [1] rfl rfl (⟨fun _ => ⟨b23, rfl, rfl⟩, fun q => absurd h q⟩)
  · refine CW.seq ?_
    refine CW.region ?_
    refine LW.v (ov_assign rfl) ?_
    refine LW.v (ov_assign rfl) ?_
    refine LW.nil ?_
    refine KW.thenN ?_
    refine CW.seq ?_
    refine CW.seq ?_
    refine CW.region ?_
    refine LW.v (ov_move rfl) ?_
    refine LW.v (ov_lss rfl rfl) ?_
    refine LW.v (ov_move rfl) ?_
    first | refine KW.splitD 8 rfl (fun h8 => ?_) (fun h8 => ?_) | refine KW.split 8 rfl (fun h8 => ?_) (fun h8 => ?_)
    · refine LW.skip rfl rfl ?_
      refine LW.skip rfl rfl ?_
      first | refine LW.v (ov_pickT rfl rfl) ?_ | refine LW.v (ov_pickF rfl rfl) ?_ | refine LW.v (ov_pick rfl rfl rfl) ?_
      refine LW.v (ov_move rfl) ?_
      refine LW.skip rfl rfl ?_
      refine LW.skip rfl rfl ?_
      first | refine LW.v (ov_pickT rfl rfl) ?_ | refine LW.v (ov_pickF rfl rfl) ?_ | refine LW.v (ov_pick rfl rfl rfl) ?_
      refine LW.v (ov_move rfl) ?_
      refine LW.skip rfl rfl ?_
      refine LW.skip rfl rfl ?_
      first | refine LW.v (ov_pickT rfl rfl) ?_ | refine LW.v (ov_pickF rfl rfl) ?_ | refine LW.v (ov_pick rfl rfl rfl) ?_
      refine LW.nil ?_
      refine KW.thenN ?_
      refine CW.condT rfl rfl ?_
      refine CW.seq ?_
      refine CW.region ?_
      refine LW.v (ov_assign rfl) ?_
      refine LW.v (ov_assign rfl) ?_
      refine LW.nil ?_
      refine KW.thenN ?_
      refine CW.ret ?_
      refine KW.thenR ?_
      first | (exfalso; omega) | exact KW.retF (.cons (.tmp rfl) (.cons (.tmp rfl) .nil)) [] rfl rfl ⟨fun q => absurd q h, fun _ => rfl⟩
    · refine LW.v (ov_move rfl) ?_
      refine LW.v (ov_gtr rfl rfl) ?_
      first | refine LW.v (ov_pickT rfl rfl) ?_ | refine LW.v (ov_pickF rfl rfl) ?_ | refine LW.v (ov_pick rfl rfl rfl) ?_
      refine LW.v (ov_move rfl) ?_
      first | refine KW.splitD 12 rfl (fun h12 => ?_) (fun h12 => ?_) | refine KW.split 12 rfl (fun h12 => ?_) (fun h12 => ?_)
      · refine LW.skip rfl rfl ?_
        refine LW.skip rfl rfl ?_
        first | refine LW.v (ov_pickT rfl rfl) ?_ | refine LW.v (ov_pickF rfl rfl) ?_ | refine LW.v (ov_pick rfl rfl rfl) ?_
        refine LW.v (ov_move rfl) ?_
        refine LW.skip rfl rfl ?_
        refine LW.skip rfl rfl ?_
        first | refine LW.v (ov_pickT rfl rfl) ?_ | refine LW.v (ov_pickF rfl rfl) ?_ | refine LW.v (ov_pick rfl rfl rfl) ?_
        refine LW.nil ?_
        refine KW.thenN ?_
        refine CW.condT rfl rfl ?_
        refine CW.seq ?_
        refine CW.region ?_
        refine LW.v (ov_assign rfl) ?_
        refine LW.v (ov_assign rfl) ?_
        refine LW.nil ?_
        refine KW.thenN ?_
        refine CW.ret ?_
        refine KW.thenR ?_
        first | (exfalso; omega) | exact KW.retF (.cons (.tmp rfl) (.cons (.tmp rfl) .nil)) [] rfl rfl ⟨fun q => absurd q h, fun _ => rfl⟩
      · refine LW.v (ov_move rfl) ?_
        refine LW.v (ov_lss rfl rfl) ?_
        first | refine LW.v (ov_pickT rfl rfl) ?_ | refine LW.v (ov_pickF rfl rfl) ?_ | refine LW.v (ov_pick rfl rfl rfl) ?_
        refine LW.v (ov_move rfl) ?_
        first | refine KW.splitD 16 rfl (fun h16 => ?_) (fun h16 => ?_) | refine KW.split 16 rfl (fun h16 => ?_) (fun h16 => ?_)
        · refine LW.skip rfl rfl ?_
          refine LW.skip rfl rfl ?_
          first | refine LW.v (ov_pickT rfl rfl) ?_ | refine LW.v (ov_pickF rfl rfl) ?_ | refine LW.v (ov_pick rfl rfl rfl) ?_
          refine LW.nil ?_
          refine KW.thenN ?_
          refine CW.condT rfl rfl ?_
          refine CW.seq ?_
          refine CW.region ?_
          refine LW.v (ov_assign rfl) ?_
          refine LW.v (ov_assign rfl) ?_
          refine LW.nil ?_
          refine KW.thenN ?_
          refine CW.ret ?_
          refine KW.thenR ?_
          first | (exfalso; omega) | exact KW.retF (.cons (.tmp rfl) (.cons (.tmp rfl) .nil)) [] rfl rfl ⟨fun q => absurd q h, fun _ => rfl⟩
        · refine LW.v (ov_move rfl) ?_
          refine LW.v (ov_gtr rfl rfl) ?_
          first | refine LW.v (ov_pickT rfl rfl) ?_ | refine LW.v (ov_pickF rfl rfl) ?_ | refine LW.v (ov_pick rfl rfl rfl) ?_
          refine LW.nil ?_
          refine KW.thenN ?_
          first | refine KW.splitD 19 rfl (fun h19 => ?_) (fun h19 => ?_) | refine KW.split 19 rfl (fun h19 => ?_) (fun h19 => ?_)
          · refine CW.condT rfl rfl ?_
            refine CW.seq ?_
            refine CW.region ?_
            refine LW.v (ov_assign rfl) ?_
            refine LW.v (ov_assign rfl) ?_
            refine LW.nil ?_
            refine KW.thenN ?_
            refine CW.ret ?_
            refine KW.thenR ?_
            first | (exfalso; omega) | exact KW.retF (.cons (.tmp rfl) (.cons (.tmp rfl) .nil)) [] rfl rfl ⟨fun q => absurd q h, fun _ => rfl⟩
          · refine CW.condF rfl rfl ?_
            refine CW.skip ?_
            refine KW.thenN ?_
            refine CW.seq ?_
            refine CW.region ?_
            refine LW.v (ov_move rfl) ?_
            refine LW.v (ov_move rfl) ?_
            refine LW.v (ov_build zc83 pl83 rfl (.c rfl (.one rfl) rfl (.h (.n)) (.c rfl (.one rfl) rfl (.t (.h (.n))) (.n)))) ?_
            refine LW.opBA (ob_box rfl .agg (fun _ => .c (.n))) rfl rfl (fun b23 => ?_)
            refine LW.v (ov_assign rfl) ?_
            refine LW.v (ov_assign rfl) ?_
            refine LW.nil ?_
            refine KW.thenN ?_
            refine CW.ret ?_
            first | (exfalso; omega) | exact KW.retF (.cons (.tmp rfl) (.cons (.tmp rfl) .nil)) [] rfl rfl ⟨fun q => absurd q h, fun _ => rfl⟩
end Sx
end Go.Proofs.Ytdgphamhpjnmpaa

/- The plain law of demuxes. -/
namespace Go.Proofs.Ytdgphamhpjnmpaa
namespace Sx

theorem begB_take {b : List UInt8} {n : Nat} (h : 5 ≤ n) : begB (b.take n) = begB b := by
  unfold begB
  rw [List.getElem?_take_of_lt (by omega), List.getElem?_take_of_lt (by omega)]
theorem word_take {b : List UInt8} {n i : Nat} (h : i + 1 < n) : word (b.take n) i = word b i := by
  unfold word
  rw [List.getElem?_take_of_lt (by omega), List.getElem?_take_of_lt (by omega)]
theorem takeK_eq {b : List UInt8} (h : (takeK b).2.2 = 0) : begB b = true ∧ 7 + (word b 4).toNat ≤ b.length ∧ takeK b = (⟨decide (word b 0 / 4096 % 2 ≠ 0), word b 0 % 2048, word b 2 / 16384, word b 2 % 16384, (b.drop 6).take (7 + (word b 4).toNat - 6)⟩, 7 + (word b 4).toNat, 0) := by
  unfold takeK at h ⊢
  by_cases h1 : begB b = false
  · rw [if_pos h1] at h; cases h
  · rw [if_neg h1] at h ⊢
    by_cases h2 : b.length < 6
    · rw [if_pos h2] at h; cases h
    · rw [if_neg h2] at h ⊢
      simp only at h ⊢
      by_cases h3 : b.length < 7 + (word b 4).toNat
      · rw [if_pos h3] at h; cases h
      · rw [if_neg h3]
        exact ⟨by simpa using h1, by omega, rfl⟩
theorem takeK_take {b : List UInt8} (h : (takeK b).2.2 = 0) : takeK (b.take (takeK b).2.1) = takeK b := by
  obtain ⟨h1, h2, h3⟩ := takeK_eq h
  rw [h3]
  simp only
  have hl : (b.take (7 + (word b 4).toNat)).length = 7 + (word b 4).toNat := by rw [List.length_take]; omega
  unfold takeK
  rw [begB_take (by omega), if_neg (by simp [h1]), if_neg (by omega)]
  simp only
  rw [word_take (i := 4) (by omega), word_take (i := 0) (by omega), word_take (i := 2) (by omega), if_neg (by omega), List.drop_take, List.take_take, Nat.min_self]
theorem getK_take {b : List UInt8} (h : (takeK b).2.2 = 0) : (getK (b.take (takeK b).2.1)).1 = (takeK b).1 := by
  have hl := takeK_len h
  unfold getK
  rw [takeK_take h, if_neg]
  rw [List.length_take, Nat.min_eq_left hl.2]
  simp [h]
theorem getK_full {b : List UInt8} (h : (takeK b).2.2 = 0) (h' : (takeK b).2.1 = b.length) : (getK b).1 = (takeK b).1 := by
  unfold getK; rw [if_neg]; simp [h, h']
theorem takeK_none {b : List UInt8} (h : (takeK b).2.2 = 4) : b.length < 1037 := by
  unfold takeK at h
  by_cases h1 : begB b = false
  · rw [if_pos h1] at h; cases h
  · rw [if_neg h1] at h
    by_cases h2 : b.length < 6
    · omega
    · rw [if_neg h2] at h
      simp only at h
      by_cases h3 : b.length < 7 + (word b 4).toNat
      · have h4 : ∃ c, b[4]? = some c := ⟨_, List.getElem?_eq_getElem (by omega)⟩
        have h5 : ∃ c, b[5]? = some c := ⟨_, List.getElem?_eq_getElem (by omega)⟩
        obtain ⟨c4, h4⟩ := h4
        obtain ⟨c5, h5⟩ := h5
        have hw : word b 4 = c4.toNat * 256 + c5.toNat := by unfold word; rw [h4, h5]
        have hb : c4.toNat < 4 := by
          have : begB b = true := by simpa using h1
          unfold begB at this
          rw [h4] at this
          simp only [Bool.and_eq_true, decide_eq_true_eq] at this
          exact this.2
        have := c5.toNat_lt
        omega
      · rw [if_neg h3] at h; cases h

/-- what the program and the reference know of a channel -/
structure SR (s t : Snk) : Prop where
  kn : s.known = t.known
  fr : s.frame = t.frame
  ct : s.count = t.count
  c0 : 0 ≤ s.count ∧ s.count ≤ 255
  bg : s.begun = t.begun
  pt : s.begun = true → s.part = t.part ∧ s.part.length ≤ 1037
theorem part_law {s t : Snk} (h : SR s t) (a : Arr) (f : Tf) : (partP s a f).2 = (partR t a f).2 ∧ SR (partP s a f).1 (partR t a f).1 ∧ (f.first ≠ 2047 → (partP s a f).1.begun = false) ∧ (partP s a f).2.pks.length ≤ a.pks.length + 1 := by
  unfold partP partR
  by_cases hb : s.begun = true
  · have hbt : t.begun = true := h.bg ▸ hb
    rw [if_pos hb, if_pos hbt]
    obtain ⟨hp, hpl⟩ := h.pt hb
    rw [← hp]
    simp only
    generalize hpt : s.part ++ f.data.take (min f.first f.data.length).toNat = p
    by_cases h1 : (takeK p).2.2 = 0 ∧ (takeK p).2.1 = p.length
    · have hn : ¬(f.first = 2047 ∧ (takeK p).2.2 = 4) := fun q => by have := h1.1; omega
      simp only [if_pos h1, if_neg hn, getK_full h1.1 h1.2]
      have := dlv_len a (takeK p).1.apid p
      exact ⟨trivial, ⟨h.kn, h.fr, h.ct, h.c0, rfl, fun q => by cases q⟩, fun _ => trivial, this⟩
    · rw [if_neg h1]
      by_cases h2 : (takeK p).2.2 ≠ 4 ∨ f.first ≠ 2047
      · have hn : ¬(f.first = 2047 ∧ (takeK p).2.2 = 4) := fun q => by omega
        simp only [if_pos h2, if_neg hn, if_neg h1]
        exact ⟨trivial, ⟨h.kn, h.fr, h.ct, h.c0, rfl, fun q => by cases q⟩, fun _ => trivial, Nat.le_succ _⟩
      · have hn : f.first = 2047 ∧ (takeK p).2.2 = 4 := by omega
        simp only [if_neg h2, if_pos hn, if_neg h1]
        refine ⟨trivial, ⟨h.kn, h.fr, h.ct, h.c0, h.bg, fun q => ⟨rfl, ?_⟩⟩, fun q => by omega, Nat.le_succ _⟩
        have := takeK_none (b := p) (by omega)
        simp only; omega
  · have hbt : ¬ t.begun = true := fun q => hb (h.bg.trans q)
    rw [if_neg hb, if_neg hbt]
    exact ⟨rfl, h, fun _ => by simpa using hb, Nat.le_succ _⟩
theorem go_law {s t : Snk} (hs : s.begun = false) : ∀ (n : Nat) (b : List UInt8) (a : Arr), SR s t → b.length ≤ n → (afterP { s with part := [] } (goP n b a)).2 = (goR n b t a).2 ∧ SR (afterP { s with part := [] } (goP n b a)).1 (goR n b t a).1 ∧ (goR n b t a).2.pks.length ≤ a.pks.length + b.length := by
  have hno : ∀ a t, SR s t → (afterP { s with part := [] } (a, none)).2 = a ∧ SR (afterP { s with part := [] } (a, none)).1 t := fun a t h => ⟨rfl, ⟨h.kn, h.fr, h.ct, h.c0, h.bg, fun q => by rw [show (afterP { s with part := [] } (a, none)).1.begun = s.begun from rfl, hs] at q; cases q⟩⟩
  intro n
  induction n with
  | zero => intro b a h _; exact ⟨(hno a t h).1, (hno a t h).2, by simp [goR]⟩
  | succ n ih =>
    intro b a h hb
    rw [goP, goR]
    by_cases h0 : b = []
    · rw [if_pos h0, if_pos h0]; exact ⟨(hno a t h).1, (hno a t h).2, Nat.le_add_right _ _⟩
    · rw [if_neg h0, if_neg h0]
      by_cases h4 : (takeK b).2.2 = 4
      · have hn0 : (takeK b).2.2 ≠ 0 := by omega
        rw [if_pos h4, if_pos hn0]
        simp only [afterP, leftS]
        rw [if_pos h4]
        have := takeK_none h4
        exact ⟨rfl, ⟨h.kn, h.fr, h.ct, h.c0, rfl, fun _ => ⟨rfl, by simp only; omega⟩⟩, Nat.le_add_right _ _⟩
      · rw [if_neg h4]
        by_cases he : (takeK b).2.2 ≠ 0
        · rw [if_pos he, if_pos he]
          simp only [afterP, leftS]
          rw [if_neg h4]
          exact ⟨rfl, ⟨h.kn, h.fr, h.ct, h.c0, h.bg, fun q => by simp only at q; rw [hs] at q; cases q⟩, Nat.le_add_right _ _⟩
        · have he0 : (takeK b).2.2 = 0 := Decidable.of_not_not he
          rw [if_neg he, if_neg he, getK_take he0]
          have hl := takeK_len he0
          have hd := dlv_len a (takeK b).1.apid (b.take (takeK b).2.1)
          have hdl : (b.drop (takeK b).2.1).length = b.length - (takeK b).2.1 := List.length_drop
          obtain ⟨i1, i2, i3⟩ := ih (b.drop (takeK b).2.1) (dlv a (takeK b).1.apid (b.take (takeK b).2.1)) h (by omega)
          exact ⟨i1, i2, by omega⟩
theorem take_law {s t : Snk} (h : SR s t) (a : Arr) (f : Tf) : (takeF s a f).2 = (fieldF t a f).2 ∧ SR (takeF s a f).1 (fieldF t a f).1 ∧ (takeF s a f).2.pks.length ≤ a.pks.length + 1 + f.data.length := by
  obtain ⟨h1, h2, h3, h4⟩ := part_law h a f
  unfold takeF fieldF
  simp only
  by_cases hw : f.first = 2047
  · rw [if_pos hw, if_pos hw]; exact ⟨h1, h2, by omega⟩
  · rw [if_neg hw, if_neg hw, ← h1]
    obtain ⟨i1, i2, i3⟩ := go_law (h3 hw) (f.data.drop (min f.first f.data.length).toNat).length (f.data.drop (min f.first f.data.length).toNat) (partP s a f).2 h2 (Nat.le_refl _)
    refine ⟨i1, i2, ?_⟩
    rw [i1]
    have : (f.data.drop (min f.first f.data.length).toNat).length ≤ f.data.length := by rw [List.length_drop]; omega
    omega
theorem snk1_law {s t : Snk} (h : SR s t) (f : Tf) (hf : f.ok) (b : List UInt8) : SR (snk1 s f b) (snk1 t f b) ∧ ∀ k m, arr1 k m s f = arr1 k m t f := by
  have hl : los s f = los t f := by unfold los; rw [h.kn, h.ct]
  unfold Tf.ok at hf
  refine ⟨?_, fun k m => by unfold arr1; rw [hl, h.bg]⟩
  unfold snk1
  rw [hl, h.bg]
  by_cases q : los t f ≠ 0 ∧ t.begun = true
  · rw [if_pos q, if_pos q]; exact ⟨rfl, rfl, rfl, by simp only; omega, rfl, fun x => by cases x⟩
  · rw [if_neg q, if_neg q]; exact ⟨rfl, rfl, rfl, by simp only; omega, rfl, fun x => h.pt (h.bg.trans x)⟩
structure DR (D R : Dm) : Prop where
  cr : D.craft = R.craft
  sz : D.size = R.size
  kn : D.known = R.known
  ms : D.master = R.master
  m0 : 0 ≤ D.master ∧ D.master ≤ 255
  sl : D.sinks.length = 8
  tl : R.sinks.length = 8
  sr : ∀ (k : Nat) (s t : Snk), D.sinks[k]? = some s → R.sinks[k]? = some t → SR s t
theorem DR.set {D R : Dm} (h : DR D R) {k : Nat} {s t : Snk} (hs : SR s t) {m : Int} (hm : 0 ≤ m ∧ m ≤ 255) {c : Int} (hc : c = R.craft) {z : Int} (hz : z = R.size) : DR ⟨c, z, true, m, D.sinks.set k s⟩ ⟨R.craft, R.size, true, m, R.sinks.set k t⟩ := by
  refine ⟨hc, hz, rfl, rfl, hm, by simp only [List.length_set]; exact h.sl, by simp only [List.length_set]; exact h.tl, fun j a b ha hb => ?_⟩
  simp only [List.getElem?_set] at ha hb
  by_cases e : k = j
  · rw [if_pos e] at ha hb
    split at ha
    · split at hb
      · cases ha; cases hb; exact hs
      · cases hb
    · cases ha
  · rw [if_neg e] at ha hb; exact h.sr j a b ha hb
theorem feed_law {D R : Dm} (h : DR D R) (b : List UInt8) : (feedF takeF D b).1 = (feedF fieldF R b).1 ∧ DR (feedF takeF D b).2 (feedF fieldF R b).2 ∧ (feedF takeF D b).1.1.pks.length ≤ 1000 := by
  have hok := @getT_ok b
  unfold feedF
  generalize getT b = r at hok ⊢
  obtain ⟨f, e⟩ := r
  simp only at hok ⊢
  by_cases he : e = 0
  · have hf := hok he
    have hf' := hf
    unfold Tf.ok at hf'
    have hne : ¬ e ≠ 0 := fun q => q he
    rw [if_neg hne, if_neg hne, ← h.cr, ← h.sz]
    by_cases hx : f.craft ≠ D.craft ∨ (f.data.length : Int) ≠ D.size
    · rw [if_pos hx, if_pos hx]; exact ⟨rfl, h, by simp⟩
    · rw [if_neg hx, if_neg hx]
      have hk : f.chan.toNat < 8 := by omega
      obtain ⟨s, hs⟩ : ∃ s, D.sinks[f.chan.toNat]? = some s := ⟨_, List.getElem?_eq_getElem (by rw [h.sl]; exact hk)⟩
      obtain ⟨t, ht⟩ : ∃ t, R.sinks[f.chan.toNat]? = some t := ⟨_, List.getElem?_eq_getElem (by rw [h.tl]; exact hk)⟩
      have hst := h.sr _ s t hs ht
      obtain ⟨h1, h2⟩ := snk1_law hst f hf b
      rw [hs, ht]
      simp only [frameF]
      rw [← hst.kn, ← hst.fr, ← h.kn, ← h.ms, ← h2]
      by_cases hd : s.known = true ∧ s.frame = b
      · rw [if_pos hd, if_pos hd]; exact ⟨rfl, h, by simp⟩
      · rw [if_neg hd, if_neg hd]
        by_cases hi : f.first ≠ 2046
        · rw [if_pos hi, if_pos hi]
          obtain ⟨t1, t2, t3⟩ := take_law h1 (arr1 D.known D.master s f) f
          refine ⟨by rw [t1], h.set t2 (by omega) h.cr h.sz, ?_⟩
          have : (arr1 D.known D.master s f).pks.length = 0 := rfl
          simp only; omega
        · rw [if_neg hi, if_neg hi]
          exact ⟨rfl, h.set h1 (by omega) h.cr h.sz, Nat.zero_le _⟩
  · rw [if_pos he, if_pos he]; exact ⟨rfl, h, by simp⟩
theorem newD_dr (craft size : Int) : DR (newD craft size) (newD craft size) := by
  refine ⟨rfl, rfl, rfl, rfl, ⟨Int.le_refl 0, show (0 : Int) ≤ 255 by decide⟩, rfl, rfl, fun k s t hs ht => ?_⟩
  rw [hs] at ht; cases ht
  have := List.mem_of_getElem? hs
  rw [List.mem_replicate] at this
  obtain ⟨_, rfl⟩ := this
  exact ⟨rfl, rfl, rfl, ⟨by decide, by decide⟩, rfl, fun q => by cases q⟩
end Sx
end Go.Proofs.Ytdgphamhpjnmpaa

/- Bools compared. -/
namespace Go.Proofs.Ytdgphamhpjnmpaa
namespace Sx
section
variable {C : Cx} {ds : List Deferred} {env : Env} {As : List HP} {d : Option Tmp} {ty : TypeId} {pos : String} {af : Array Edge} {gd : Option (Nat × Bool)} {t t' e : TypeId} {x y : Operand}
theorem run_bool_eq {P : Program} {w : World} (hu : P.underlying t = some .bool) (p q : Bool) : (Op.equal t (.bool p) (.bool q)).run P w = .ok (p == q) w := by
  unfold Op.equal Op.maxDepth Op.equalIn
  simp [run_underlying hu]
theorem ov_booleql {p q : Bool} (hu : C.P.underlying t = some .bool) (hx : evo env x = some (.bool p)) (hy : evo env y = some (.bool q)) : OpV C ds env As ⟨d, .binOp .eql t x y t', ty, pos, af, gd⟩ (.bool (p == q)) := fun a w ha hs => by
  refine binOp_eq ha hx hy (fun _ _ => by simp [eqGuard]) ?_
  simp only [binOp, Sem.run_bind, run_bool_eq hu p q]; rfl
theorem ov_boolneq {p q : Bool} (hu : C.P.underlying t = some .bool) (hx : evo env x = some (.bool p)) (hy : evo env y = some (.bool q)) : OpV C ds env As ⟨d, .binOp .neq t x y t', ty, pos, af, gd⟩ (.bool (!(p == q))) := fun a w ha hs => by
  refine binOp_eq ha hx hy (fun _ _ => by simp [eqGuard]) ?_
  simp only [binOp, Sem.run_bind, run_bool_eq hu p q]; rfl
end
theorem un4 : Try.prog.underlying 4 = some .bool := by kernel_rfl
end Sx
end Go.Proofs.Ytdgphamhpjnmpaa

/- The law's small functions. -/
namespace Go.Proofs.Ytdgphamhpjnmpaa
namespace Sx

/-- strings in the old memory -/
def RdS (W : World) (ad : Option Addr) (M : List (List UInt8)) : Prop := ∀ i (h : i < M.length), ∃ b off, ad = some ⟨b, off, none⟩ ∧ W.cell? ⟨b, off + i * 1, none⟩ = some (S M[i])
theorem Pick_ok {x : Int} {n : Nat} (hn : 1 ≤ n ∧ n ≤ 1000000000) : Fn Try.prog 17 #[.int .i64 x, .int .i64 n] [] (Ret fun v Q => v = .int .i64 (x % n) ∧ Q = []) := by
  refine Fn.of (args := _) Try.func17 rfl Try.ntmps17 rfl ?_
  intro w0 g0
  have hb : -(n : Int) < x.tmod n ∧ x.tmod n < n := by
    have h1 : (x.tmod n).natAbs < n := by
      rw [Int.natAbs_tmod]; exact Nat.mod_lt _ (by omega)
    omega
  have he : x % (n : Int) = if x.tmod n < 0 then x.tmod n + n else x.tmod n := by
    rw [Int.tmod_eq_emod] at *
    have h1 := Int.emod_nonneg x (b := (n : Int)) (by omega)
    have h2 := Int.emod_lt_of_pos x (b := (n : Int)) (by omega)
    split <;> split <;> omega
  rw [he]
  generalize hy : x.tmod n = y at hb
  refine CW.seq ?_
  refine CW.region ?_
  refine LW.v (ov_assign rfl) ?_
  refine LW.nil ?_
  refine KW.thenN ?_
  refine CW.seq ?_
  refine CW.region ?_
  refine LW.v (ov_move rfl) ?_
  refine LW.v (ov_move rfl) ?_
  refine LW.v (OpV.eq (ov_remW rfl rfl (by omega)) (congrArg (Value.int .i64) hy)) ?_
  refine LW.v (ov_assign rfl) ?_
  refine LW.nil ?_
  refine KW.thenN ?_
  refine CW.seq ?_
  refine CW.seq ?_
  refine CW.region ?_
  refine LW.v (ov_move rfl) ?_
  refine LW.v (ov_lss rfl rfl) ?_
  refine LW.nil ?_
  refine KW.thenN ?_
  refine CW.condD (by rfl) (fun h => ?_) (fun h => ?_)
  · rw [if_pos h]
    refine CW.region ?_
    refine LW.v (ov_move rfl) ?_
    refine LW.v (ov_move rfl) ?_
    first | refine LW.v (ov_add rfl rfl (by omega)) ?_ | refine LW.v (ov_addW rfl rfl) ?_
    refine LW.v (ov_assign rfl) ?_
    refine LW.nil ?_
    refine KW.thenN ?_
    refine CW.seq ?_
    refine CW.region ?_
    refine LW.v (ov_move rfl) ?_
    refine LW.v (ov_assign rfl) ?_
    refine LW.nil ?_
    refine KW.thenN ?_
    refine CW.ret ?_
    exact KW.retF (.cons (.tmp rfl) (.nil)) [] rfl rfl (⟨rfl, rfl⟩)
  · rw [if_neg h]
    refine CW.skip ?_
    refine KW.thenN ?_
    refine CW.seq ?_
    refine CW.region ?_
    refine LW.v (ov_move rfl) ?_
    refine LW.v (ov_assign rfl) ?_
    refine LW.nil ?_
    refine KW.thenN ?_
    refine CW.ret ?_
    exact KW.retF (.cons (.tmp rfl) (.nil)) [] rfl rfl (⟨rfl, rfl⟩)
abbrev strS (X : List (List UInt8)) : List Value := X.map S
theorem Same_ok {ad1 ad2 : Option Addr} {c1 c2 : Nat} {X Y : List (List UInt8)} (hX : X.length ≤ 1000000000) : Fn Try.prog 16 #[.slice ad1 X.length c1, .slice ad2 Y.length c2] [ownS 9 1 (.slice ad1 X.length c1) X.length (strS X), ownS 9 1 (.slice ad2 Y.length c2) Y.length (strS Y)]
    (Ret fun v Q => v = .bool (decide (X = Y)) ∧ Q = [ownS 9 1 (.slice ad1 X.length c1) X.length (strS X), ownS 9 1 (.slice ad2 Y.length c2) Y.length (strS Y)]) := by
  refine Fn.of (args := _) Try.func16 rfl Try.ntmps16 rfl ?_
  intro w0 g0
  refine CW.seq ?_
  refine CW.region ?_
  refine LW.v (ov_assign rfl) ?_
  refine LW.nil ?_
  refine KW.thenN ?_
  refine CW.seq ?_
  refine CW.seq ?_
  refine CW.region ?_
  refine LW.v (ov_move rfl) ?_
  refine LW.v (ov_lenL so22 rfl) ?_
  refine LW.v (ov_move rfl) ?_
  refine LW.v (ov_lenL so22 rfl) ?_
  refine LW.v (ov_neq rfl rfl) ?_
  refine LW.nil ?_
  refine KW.thenN ?_
  refine CW.condD (by rfl) (fun h => ?_) (fun h => ?_)
  · refine CW.seq ?_
    refine CW.region ?_
    refine LW.v (ov_assign rfl) ?_
    refine LW.nil ?_
    refine KW.thenN ?_
    refine CW.ret ?_
    refine KW.thenR ?_
    have : decide (X = Y) = false := decide_eq_false (by intro e; subst e; simp at h)
    rw [this]
    exact KW.retF (.cons (.tmp rfl) .nil) [1, 2] rfl rfl ⟨rfl, rfl⟩
  refine CW.skip ?_
  refine KW.thenN ?_
  refine CW.seq ?_
  refine CW.seq ?_
  refine CW.region ?_
  refine LW.v (ov_assign rfl) ?_
  refine LW.nil ?_
  refine KW.thenN ?_
  refine CW.block ?_
  have hXY : X.length = Y.length := by omega
  refine CW.loopW (fun n env As => ∃ k : Nat, k + n = X.length ∧ X.take k = Y.take k ∧ env = [(0, .slice ad1 X.length c1), (1, .slice ad2 Y.length c2), (5, .int .i64 k)] ∧ As = [ex g0, ownS 9 1 (.slice ad1 X.length c1) X.length (strS X), ownS 9 1 (.slice ad2 Y.length c2) Y.length (strS Y)]) X.length [0, 1, 2] ⟨0, by simp, rfl, rfl, rfl⟩ ⟨rfl, rfl, rfl, trivial⟩ rfl rfl ?_
  rintro n _ _ ⟨k, hkn, htk, rfl, rfl⟩
  refine CW.seq ?_
  refine CW.seq ?_
  refine CW.region ?_
  refine LW.v (ov_move rfl) ?_
  refine LW.v (ov_move rfl) ?_
  refine LW.v (ov_lenL so22 rfl) ?_
  refine LW.v (ov_lss rfl rfl) ?_
  refine LW.nil ?_
  refine KW.thenN ?_
  refine CW.condD (by rfl) (fun h2 => ?_) (fun h2 => ?_)
  · have hk : k < X.length := by omega
    have hk' : k < Y.length := by omega
    refine KW.own 1 rfl (fun _ h0 => by omega) fun b1 c1' ex1 hv1 hnc1 hxl1 hcl1 => ?_
    obtain ⟨rfl, rfl⟩ : ad1 = some ⟨b1, 0, none⟩ ∧ c1 = c1' := by simpa using hv1
    simp only [List.set_cons_succ, List.set_cons_zero]
    refine KW.own 2 rfl (fun _ h0 => by omega) fun b2 c2' ex2 hv2 hnc2 hxl2 hcl2 => ?_
    obtain ⟨rfl, rfl⟩ : ad2 = some ⟨b2, 0, none⟩ ∧ c2 = c2' := by simpa using hv2
    simp only [List.set_cons_succ, List.set_cons_zero]
    have g1 : (strS X ++ ex1)[0 + k * 1]? = some (S X[k]) := by
      rw [Nat.zero_add, Nat.mul_one, List.getElem?_append_left (by simpa using hk)]; simp [hk]
    have g2 : (strS Y ++ ex2)[0 + k * 1]? = some (S Y[k]) := by
      rw [Nat.zero_add, Nat.mul_one, List.getElem?_append_left (by simpa using hk')]; simp [hk']
    refine CW.skip ?_
    refine KW.thenN ?_
    refine CW.seq ?_
    refine CW.block ?_
    refine CW.seq ?_
    refine CW.draw [1,2] rfl mixed rfl (ls := #[false, false, false, false, false, false, false, false, false]) (by kernel_rfl) ?_
    refine DW.tk 0 [1,2] rfl (ov_move rfl) ?_
    refine DW.tk 1 [1,2] rfl (ov_move rfl) ?_
    refine DW.tk 2 [1,2] rfl (ov_idxL so22 rfl rfl rfl (by omega)) ?_
    refine DW.tk 3 [1,2] rfl (ov_loadR 0 ta9 rfl rfl g1) ?_
    refine DW.tk 4 [1,2] rfl (ov_move rfl) ?_
    refine DW.tk 5 [1,2] rfl (ov_move rfl) ?_
    refine DW.tk 6 [1,2] rfl (ov_idxL so22 rfl rfl rfl (by omega)) ?_
    refine DW.tk 7 [1,2] rfl (ov_loadR 1 ta9 rfl rfl g2) ?_
    refine DW.tk 8 [1,2] rfl (ov_strNeq rfl rfl) ?_
    refine DW.done (by kernel_rfl) ?_
    refine KW.thenN ?_
    refine CW.condD (by rfl) (fun h3 => ?_) (fun h3 => ?_)
    · refine CW.seq ?_
      refine CW.region ?_
      refine LW.v (ov_assign rfl) ?_
      refine LW.nil ?_
      refine KW.thenN ?_
      refine CW.ret ?_
      refine KW.blockR ?_
      refine KW.thenR ?_
      refine KW.thenR ?_
      refine KW.blockR ?_
      refine KW.thenR ?_
      have : decide (X = Y) = false := decide_eq_false (by intro e; subst e; exact h3 rfl)
      rw [this]
      exact KW.retE (.cons (.tmp rfl) .nil) fun w hs hw => ⟨_, ⟨rfl, rfl⟩, (hs.imp 1 rfl (own_row hnc1 hxl1 hcl1)).imp 2 rfl (own_row hnc2 hxl2 hcl2), hw⟩
    · refine KW.turn (fun w hs => (hs.imp 1 rfl (own_row hnc1 hxl1 hcl1)).imp 2 rfl (own_row hnc2 hxl2 hcl2)) ?_
      simp only [List.set_cons_succ, List.set_cons_zero]
      refine CW.skip ?_
      refine KW.blockN ?_
      refine KW.thenN ?_
      refine CW.region ?_
      refine LW.v (ov_move rfl) ?_
      first | refine LW.v (ov_add rfl rfl (by omega)) ?_ | refine LW.v (ov_addW rfl rfl) ?_
      refine LW.v (ov_assign rfl) ?_
      refine LW.nil ?_
      have h3' : X[k] = Y[k] := by simpa using h3
      exact KW.again (n - 1) [0, 1, 2] (by omega) ⟨k + 1, by omega, by rw [List.take_succ_eq_append_getElem hk, List.take_succ_eq_append_getElem hk', htk, h3'], rfl, rfl⟩ ⟨rfl, rfl, rfl, trivial⟩ rfl rfl
  · refine CW.exit ?_
    refine KW.thenX ?_
    refine KW.thenX ?_
    refine KW.hit ?_
    refine KW.thenN ?_
    refine CW.seq ?_
    refine CW.region ?_
    refine LW.v (ov_assign rfl) ?_
    refine LW.nil ?_
    refine KW.thenN ?_
    refine CW.ret ?_
    have hk : k = X.length := by omega
    subst hk
    have : X = Y := by
      rw [List.take_length, hXY, List.take_length] at htk; exact htk
    have hd : decide (X = Y) = true := decide_eq_true this
    rw [hd]
    exact KW.retF (.cons (.tmp rfl) .nil) [1, 2] rfl rfl ⟨rfl, rfl⟩

theorem Same_refl {ad1 ad2 : Option Addr} {c1 c2 : Nat} {X : List (List UInt8)} (hX : X.length ≤ 1000000000) : Fn Try.prog 16 #[.slice ad1 X.length c1, .slice ad2 X.length c2] [ownS 9 1 (.slice ad1 X.length c1) X.length (strS X), ownS 9 1 (.slice ad2 X.length c2) X.length (strS X)]
    (Ret fun v Q => v = .bool true ∧ Q = [ownS 9 1 (.slice ad1 X.length c1) X.length (strS X), ownS 9 1 (.slice ad2 X.length c2) X.length (strS X)]) := by
  have := Same_ok (ad1 := ad1) (ad2 := ad2) (c1 := c1) (c2 := c2) (X := X) (Y := X) hX
  rw [decide_eq_true rfl] at this; exact this

theorem same_ok {ad1 ad2 : Option Addr} {c1 c2 : Nat} {a : Arr} (ha : a.pks.length ≤ 1000000000) : Fn Try.prog 13 #[arrV ad1 c1 a, arrV ad2 c2 a] [pown ad1 c1 a, pown ad2 c2 a] (Ret fun v Q => v = .bool true ∧ Q = [pown ad1 c1 a, pown ad2 c2 a]) := by
  obtain ⟨ch, dbl, lost, missed, pks, broken, word⟩ := a
  refine Fn.of (args := _) Try.func13 rfl Try.ntmps13 rfl ?_
  intro w0 g0
  refine CW.seq ?_
  refine CW.region ?_
  refine LW.opBA (ob_box rfl .agg (fun _ => .c (.c (.c (.n))))) rfl rfl (fun b2 => ?_)
  refine LW.opBA (ob_box rfl .agg (fun _ => .c (.c (.c (.c (.n)))))) rfl rfl (fun b3 => ?_)
  refine LW.v (ov_assign rfl) ?_
  refine LW.nil ?_
  refine KW.thenN ?_
  refine CW.seq ?_
  refine CW.region ?_
  refine LW.v (ov_fieldAddr fo33_0 rfl) ?_
  refine LW.v (ov_loadR 3 ta3 rfl rfl rfl) ?_
  refine LW.v (ov_fieldAddr fo33_0 rfl) ?_
  refine LW.v (ov_loadR 4 ta3 rfl rfl rfl) ?_
  refine LW.v (OpV.eq (ov_eql rfl rfl) (congrArg Value.bool (decide_eq_true (by first | omega | assumption)))) ?_
  refine LW.v (ov_move rfl) ?_
  refine LW.v (ov_fieldAddr fo33_1 rfl) ?_
  refine LW.v (ov_loadR 3 ta4 rfl rfl rfl) ?_
  refine LW.v (ov_fieldAddr fo33_1 rfl) ?_
  refine LW.v (ov_loadR 4 ta4 rfl rfl rfl) ?_
  refine LW.v (OpV.eq (ov_booleql (by kernel_rfl) rfl rfl) (congrArg Value.bool (by cases dbl <;> rfl))) ?_
  first | refine LW.v (ov_pickT rfl rfl) ?_ | refine LW.v (ov_pickF rfl rfl) ?_ | refine LW.v (ov_pick rfl rfl rfl) ?_
  refine LW.v (ov_move rfl) ?_
  refine LW.v (ov_fieldAddr fo33_2 rfl) ?_
  refine LW.v (ov_loadR 3 ta3 rfl rfl rfl) ?_
  refine LW.v (ov_fieldAddr fo33_2 rfl) ?_
  refine LW.v (ov_loadR 4 ta3 rfl rfl rfl) ?_
  refine LW.v (OpV.eq (ov_eql rfl rfl) (congrArg Value.bool (decide_eq_true (by first | omega | assumption)))) ?_
  first | refine LW.v (ov_pickT rfl rfl) ?_ | refine LW.v (ov_pickF rfl rfl) ?_ | refine LW.v (ov_pick rfl rfl rfl) ?_
  refine LW.v (ov_move rfl) ?_
  refine LW.v (ov_fieldAddr fo33_3 rfl) ?_
  refine LW.v (ov_loadR 3 ta3 rfl rfl rfl) ?_
  refine LW.v (ov_fieldAddr fo33_3 rfl) ?_
  refine LW.v (ov_loadR 4 ta3 rfl rfl rfl) ?_
  refine LW.v (OpV.eq (ov_eql rfl rfl) (congrArg Value.bool (decide_eq_true (by first | omega | assumption)))) ?_
  first | refine LW.v (ov_pickT rfl rfl) ?_ | refine LW.v (ov_pickF rfl rfl) ?_ | refine LW.v (ov_pick rfl rfl rfl) ?_
  refine LW.v (ov_move rfl) ?_
  refine LW.v (ov_fieldAddr fo33_5 rfl) ?_
  refine LW.v (ov_loadR 3 ta3 rfl rfl rfl) ?_
  refine LW.v (ov_fieldAddr fo33_5 rfl) ?_
  refine LW.v (ov_loadR 4 ta3 rfl rfl rfl) ?_
  refine LW.v (OpV.eq (ov_eql rfl rfl) (congrArg Value.bool (decide_eq_true (by first | omega | assumption)))) ?_
  first | refine LW.v (ov_pickT rfl rfl) ?_ | refine LW.v (ov_pickF rfl rfl) ?_ | refine LW.v (ov_pick rfl rfl rfl) ?_
  refine LW.v (ov_move rfl) ?_
  refine LW.v (ov_fieldAddr fo33_6 rfl) ?_
  refine LW.v (ov_loadR 3 ta31 rfl rfl rfl) ?_
  refine LW.v (ov_fieldAddr fo33_6 rfl) ?_
  refine LW.v (ov_loadR 4 ta31 rfl rfl rfl) ?_
  refine LW.v (OpV.eq (ov_eql rfl rfl) (congrArg Value.bool (decide_eq_true (by first | omega | assumption)))) ?_
  first | refine LW.v (ov_pickT rfl rfl) ?_ | refine LW.v (ov_pickF rfl rfl) ?_ | refine LW.v (ov_pick rfl rfl rfl) ?_
  refine LW.v (ov_move rfl) ?_
  refine LW.v (ov_fieldAddr fo33_4 rfl) ?_
  refine LW.v (ov_loadR 3 ta22 rfl rfl rfl) ?_
  refine LW.v (ov_fieldAddr fo33_4 rfl) ?_
  refine LW.v (ov_loadR 4 ta22 rfl rfl rfl) ?_
  refine LW.call [1, 2] (oc_fn cf16 rfl) rfl rfl rfl rfl (Same_refl ha) ?_
  rintro _ _ ⟨rfl, rfl⟩
  simp only [putBack, List.set_cons_succ, List.set_cons_zero, List.append_nil]
  first | refine LW.v (ov_pickT rfl rfl) ?_ | refine LW.v (ov_pickF rfl rfl) ?_ | refine LW.v (ov_pick rfl rfl rfl) ?_
  refine LW.v (ov_assign rfl) ?_
  refine LW.nil ?_
  refine KW.thenN ?_
  refine CW.ret ?_
  exact KW.retF (.cons (.tmp rfl) (.nil)) [1, 2] rfl rfl (⟨rfl, rfl⟩)
/-- a made packet -/
def madeB (n : Nat) (x : Int) : List UInt8 := enc ⟨false, 3, 3, x % 16384, UInt8.ofNat (x % 256).toNat :: List.replicate (n - 7) 0⟩
theorem made_ok {m : Nat} {x : Int} (hm : m ≤ 1023) : Fn Try.prog 20 #[.int .i64 (m + 7 : Nat), .int .i64 x] [] (Ret fun v Q => v = S (madeB (m + 7) x) ∧ Q = []) := by
  obtain ⟨z, hz⟩ : ∃ z, z = List.replicate m (0 : UInt8) := ⟨_, rfl⟩
  have hzl : z.length = m := by rw [hz]; simp
  have hmb : madeB (m + 7) x = enc ⟨false, 3, 3, x % 16384, UInt8.ofNat (x % 256).toNat :: z⟩ := by rw [madeB, hz]; rfl
  have hok : Pk.ok ⟨false, 3, 3, x % 16384, UInt8.ofNat (x % 256).toNat :: z⟩ := ⟨by simp, by simp, by simp, by simp, by simp only; omega, by simp only; omega, by simp, by simp only [List.length_cons]; omega⟩
  have hput := Put_ok ⟨false, 3, 3, x % 16384, UInt8.ofNat (x % 256).toNat :: z⟩
  rw [if_pos hok] at hput
  rw [hmb]
  have hzb : (List.replicate (m + 1) [Value.int .u8 0]).flatten = ((0 : UInt8) :: z).map bv := by rw [repl_bv, hz]; rfl
  have e9 : (((m + 7 : Nat) : Int) - 6) = ((m + 1 : Nat) : Int) := by omega
  refine Fn.of (args := _) Try.func20 rfl Try.ntmps20 rfl ?_
  intro w0 g0
  refine CW.seq ?_
  refine CW.region ?_
  refine LW.v (ov_assign rfl) ?_
  refine LW.nil ?_
  refine KW.thenN ?_
  refine CW.seq ?_
  refine CW.region ?_
  refine LW.v (ov_move rfl) ?_
  refine LW.v (OpV.eq (ov_sub rfl rfl (by omega)) (congrArg (Value.int .i64) e9)) ?_
  refine LW.opBA (ob_make so107 zc5 rfl rfl rfl (by omega) (by omega) (fun _ => (.c (.n)))) rfl rfl (fun b10 => ?_)
  refine LW.v (ov_assign rfl) ?_
  refine LW.nil ?_
  refine KW.thenN ?_
  rw [hzb]
  have hc : x % 256 = ((UInt8.ofNat (x % 256).toNat).toNat : Int) := by rw [UInt8.toNat_ofNat']; omega
  generalize UInt8.ofNat (x % 256).toNat = c at hc hput hok
  refine CW.seq ?_
  refine CW.region ?_
  refine LW.v (ov_move rfl) ?_
  refine LW.v (ov_move rfl) ?_
  refine LW.v (OpV.eq (ov_toU un5 us3 rfl wrap_u8) (congrArg (Value.int .u8) hc)) ?_
  refine LW.v (ov_idxL (i := 0) so107 rfl rfl rfl (by omega)) ?_
  refine LW.opU (ou_storeAt ta5 rfl rfl rfl (by simp) (.t (.h))) rfl ?_
  refine LW.nil ?_
  refine KW.thenN ?_
  rw [show (((0 : UInt8) :: z).map bv).set (0 + 0 * 1) (Value.int .u8 c.toNat) = (c :: z).map bv from rfl]
  refine CW.seq ?_
  refine CW.draw [1] rfl mixed rfl (ls := #[false, false, false, false, false, false, false, false, false, false, false]) (by kernel_rfl) ?_
  refine DW.tk 0 [1] rfl (ov_move rfl) ?_
  refine DW.tk 2 [1] rfl (ov_move rfl) ?_
  refine DW.tk 3 [1] rfl (ov_b2sR (l := c :: z) 0 so107 un9 un5 rfl (by rw [List.length_cons, hzl]) rfl (fun j v hj => by rw [Nat.zero_add]; exact hj)) ?_
  refine DW.all1 1 (by kernel_rfl) ?_
  refine DO.call [1] [] rfl (oc_fn cf17 rfl) rfl rfl rfl rfl (Pick_ok (x := x) (n := 16384) (by omega)) (by rintro _ _ ⟨rfl, rfl⟩; exact ⟨rfl, rfl⟩) rfl ?_
  rintro _ _ ⟨rfl, rfl⟩
  simp only [putBack, List.append_nil]
  refine DW.tk 4 [1] rfl (ov_build zc110 pl110 rfl (.c rfl (.one rfl) rfl (.t (.h (.n))) (.c rfl (.one rfl) rfl (.t (.t (.h (.n)))) (.c rfl (.one rfl) rfl (.t (.t (.t (.h (.n))))) (.c rfl (.one rfl) rfl (.t (.t (.t (.t (.h (.n)))))) (.n)))))) ?_
  refine DW.all1 5 (by kernel_rfl) ?_
  refine DO.call [1] [] rfl (oc_fn cf40 rfl) rfl rfl rfl rfl (hput) (by rintro _ _ ⟨rfl, rfl⟩; exact ⟨rfl, rfl⟩) rfl ?_
  rintro _ _ ⟨rfl, rfl⟩
  simp only [putBack, List.append_nil]
  refine DW.tk 6 [1] rfl (ov_move rfl) ?_
  refine DW.tk 7 [1] rfl (ov_extract rfl rfl) ?_
  refine DW.tk 8 [1] rfl (ov_extract rfl rfl) ?_
  refine DW.tk 9 [1] rfl (ov_assign rfl) ?_
  refine DW.tk 10 [1] rfl (ov_assign rfl) ?_
  refine DW.done (by kernel_rfl) ?_
  refine KW.thenN ?_
  refine CW.seq ?_
  refine CW.region ?_
  refine LW.v (ov_move rfl) ?_
  refine LW.v (ov_assign rfl) ?_
  refine LW.nil ?_
  refine KW.thenN ?_
  refine CW.ret ?_
  exact KW.retF (.cons (.tmp rfl) (.nil)) [] rfl rfl (⟨rfl, rfl⟩)
end Sx
end Go.Proofs.Ytdgphamhpjnmpaa

/- The law's even. -/
namespace Go.Proofs.Ytdgphamhpjnmpaa
namespace Sx

def onesTo (k : Nat) : List Int := List.replicate k 1 ++ List.replicate (8 - k) 0
theorem onesTo_set : ∀ k, k < 8 → (onesTo k).set k 1 = onesTo (k + 1) := by decide
theorem iv_set' (l : List Int) (i : Nat) (x : Int) : (iv l).set i (.int .i64 x) = iv (l.set i x) := by
  rw [iv, iv, List.map_set]
theorem even_ok {x : Int} : Fn Try.prog 28 #[.int .i64 x] [] (Ret fun v Q => v = .tuple #[.agg (iv (List.replicate 8 0)).toArray, .agg (iv (x :: List.replicate 7 1)).toArray] ∧ Q = []) := by
  refine Fn.of (args := _) Try.func28 rfl Try.ntmps28 rfl ?_
  intro w0 g0
  refine CW.seq ?_
  refine CW.region ?_
  refine LW.opBA (ob_alloc zc38 (fun _ => .c (.n))) rfl rfl (fun b2 => ?_)
  refine LW.opBA (ob_alloc zc38 (fun _ => .c (.c (.n)))) rfl rfl (fun b3 => ?_)
  refine LW.nil ?_
  refine KW.thenN ?_
  refine CW.seq ?_
  refine CW.seq ?_
  refine CW.region ?_
  refine LW.v (ov_assign rfl) ?_
  refine LW.nil ?_
  refine KW.thenN ?_
  refine CW.block ?_
  refine CW.loopW (fun r env As => ∃ k : Nat, k + r = 8 ∧ env = [(0, .int .i64 x), (2, P1 b2 0), (3, P1 b3 0), (4, .int .i64 k)] ∧ As = [ex g0, row b2 38 (iv (List.replicate 8 0)), row b3 38 (iv (onesTo k))]) 8 [0, 1, 2] ⟨0, rfl, rfl, rfl⟩ ⟨rfl, rfl, rfl, rfl, trivial⟩ rfl rfl ?_
  rintro r _ _ ⟨k, hkr, rfl, rfl⟩
  refine CW.seq ?_
  refine CW.seq ?_
  refine CW.region ?_
  refine LW.v (ov_move rfl) ?_
  refine LW.v (ov_lss rfl rfl) ?_
  refine LW.nil ?_
  refine KW.thenN ?_
  refine CW.condD (by rfl) (fun h => ?_) (fun h => ?_)
  · have hk : k < 8 := by omega
    refine CW.skip ?_
    refine KW.thenN ?_
    refine CW.seq ?_
    refine CW.block ?_
    refine CW.region ?_
    refine LW.v (ov_move rfl) ?_
    refine LW.v (ov_idxA (i := k) ar38 ta3 rfl rfl rfl hk) ?_
    refine LW.opU (ou_storeAt ta3 rfl rfl rfl (by rw [iv_len, onesTo]; simp; omega) (.t (.t (.h)))) rfl ?_
    refine LW.nil ?_
    refine KW.blockN ?_
    refine KW.thenN ?_
    rw [show 0 + k * 1 = k by omega, iv_set', onesTo_set k hk]
    refine CW.region ?_
    refine LW.v (ov_move rfl) ?_
    first | refine LW.v (ov_add rfl rfl (by omega)) ?_ | refine LW.v (ov_addW rfl rfl) ?_
    refine LW.v (ov_assign rfl) ?_
    refine LW.nil ?_
    exact KW.again (r - 1) [0, 1, 2] (by omega) ⟨k + 1, by omega, rfl, rfl⟩ ⟨rfl, rfl, rfl, rfl, trivial⟩ rfl rfl
  · obtain rfl : k = 8 := by omega
    have e1 : (Value.int .i64 x :: List.map (Value.int .i64) ((List.replicate 7 1).append (List.replicate (8 - 8) 0))) = iv (x :: List.replicate 7 1) := rfl
    refine CW.exit ?_
    refine KW.thenX ?_
    refine KW.thenX ?_
    refine KW.hit ?_
    refine KW.thenN ?_
    refine CW.seq ?_
    refine CW.region ?_
    refine LW.v (ov_move rfl) ?_
    refine LW.v (ov_idxA (i := 0) ar38 ta3 rfl rfl rfl (by decide)) ?_
    refine LW.opU (ou_storeW ta3 rfl rfl (.one rfl) rfl rfl (.h (.n)) (.t (.t (.h)))) rfl ?_
    refine LW.nil ?_
    refine KW.thenN ?_
    refine CW.seq ?_
    rw [e1]
    have ho : ∀ l : List Int, ((iv l).all fun u => u.oneCell') = true := fun l => by simp [iv, Value.oneCell']
    refine CW.draw [] rfl mixed rfl (ls := #[false, false, false, false]) (by kernel_rfl) ?_
    refine DW.all2 0 1 (by kernel_rfl) ?_ ?_
    · refine DO.opV [] rfl (ov_loadAR 1 ta38 rfl rfl (Tk.whole _ _ rfl)) rfl rfl rfl rfl rfl ?_
      refine DW.all2 1 2 (by kernel_rfl) ?_ ?_
      · refine DO.opV [] rfl (ov_loadAR 2 ta38 rfl rfl (Tk.whole _ _ rfl)) rfl rfl rfl rfl rfl ?_
        refine DW.all1 2 (by kernel_rfl) ?_
        refine DO.opU [] rfl (ou_storeAll ta38 rfl rfl rfl rfl (ho _) rfl (.t (.h))) rfl rfl rfl rfl ?_
        refine DW.all1 3 (by kernel_rfl) ?_
        refine DO.opU [] rfl (ou_storeAll ta38 rfl rfl rfl rfl (ho _) rfl (.t (.t (.h)))) rfl rfl rfl rfl ?_
        refine DW.done (by kernel_rfl) ?_
        refine KW.thenN ?_
        refine CW.ret ?_
        exact KW.retF (.cons (ResV.cellA 1 ta38 rfl rfl (Tk.whole _ _ rfl)) (.cons (ResV.cellA 2 ta38 rfl rfl (Tk.whole _ _ rfl)) .nil)) [] rfl rfl ⟨rfl, rfl⟩
      · refine DO.opU [] rfl (ou_storeAll ta38 rfl rfl rfl rfl (ho _) rfl (.t (.h))) rfl rfl rfl rfl ?_
        refine DW.all1 1 (by kernel_rfl) ?_
        refine DO.opV [] rfl (ov_loadAR 2 ta38 rfl rfl (Tk.whole _ _ rfl)) rfl rfl rfl rfl rfl ?_
        refine DW.all1 3 (by kernel_rfl) ?_
        refine DO.opU [] rfl (ou_storeAll ta38 rfl rfl rfl rfl (ho _) rfl (.t (.t (.h)))) rfl rfl rfl rfl ?_
        refine DW.done (by kernel_rfl) ?_
        refine KW.thenN ?_
        refine CW.ret ?_
        exact KW.retF (.cons (ResV.cellA 1 ta38 rfl rfl (Tk.whole _ _ rfl)) (.cons (ResV.cellA 2 ta38 rfl rfl (Tk.whole _ _ rfl)) .nil)) [] rfl rfl ⟨rfl, rfl⟩
    · refine DO.opV [] rfl (ov_loadAR 2 ta38 rfl rfl (Tk.whole _ _ rfl)) rfl rfl rfl rfl rfl ?_
      refine DW.all1 0 (by kernel_rfl) ?_
      refine DO.opV [] rfl (ov_loadAR 1 ta38 rfl rfl (Tk.whole _ _ rfl)) rfl rfl rfl rfl rfl ?_
      refine DW.all1 2 (by kernel_rfl) ?_
      refine DO.opU [] rfl (ou_storeAll ta38 rfl rfl rfl rfl (ho _) rfl (.t (.h))) rfl rfl rfl rfl ?_
      refine DW.all1 3 (by kernel_rfl) ?_
      refine DO.opU [] rfl (ou_storeAll ta38 rfl rfl rfl rfl (ho _) rfl (.t (.t (.h)))) rfl rfl rfl rfl ?_
      refine DW.done (by kernel_rfl) ?_
      refine KW.thenN ?_
      refine CW.ret ?_
      exact KW.retF (.cons (ResV.cellA 1 ta38 rfl rfl (Tk.whole _ _ rfl)) (.cons (ResV.cellA 2 ta38 rfl rfl (Tk.whole _ _ rfl)) .nil)) [] rfl rfl ⟨rfl, rfl⟩
end Sx
end Go.Proofs.Ytdgphamhpjnmpaa

/- The law's example, in plain Lean. -/
namespace Go.Proofs.Ytdgphamhpjnmpaa
namespace Sx

def exL (ps : Nat → Nat) : List Src := [⟨ps 0, 0, 2, 0, 0, ⟨[], [], 32, 0⟩⟩, ⟨ps 1, 0, 1, 0, 0, ⟨[], [], 32, 0⟩⟩, ⟨ps 2, 0, 1, 0, 0, ⟨[], [], 32, 0⟩⟩, ⟨ps 3, 0, 1, 0, 0, ⟨[], [], 32, 0⟩⟩, ⟨ps 4, 0, 1, 0, 0, ⟨[], [], 32, 0⟩⟩, ⟨ps 5, 0, 1, 0, 0, ⟨[], [], 32, 0⟩⟩, ⟨ps 6, 0, 1, 0, 0, ⟨[], [], 32, 0⟩⟩, ⟨ps 7, 0, 1, 0, 0, ⟨[], [], 32, 0⟩⟩]
def exM0 (ps : Nat → Nat) : Mx := ⟨1, 32, 0, exL ps⟩
def exM2 (ps : Nat → Nat) : Mx := (mxAdd (mxAdd (exM0 ps) 0 (madeB 70 1)).1 1 (madeB 40 2)).1
def exM (ps : Nat → Nat) : Nat → Mx
  | 0 => exM2 ps
  | k + 1 => mxNext (exM ps k)
def exD (ps : Nat → Nat) : Nat → Dm
  | 0 => newD 1 32
  | k + 1 => (feedF takeF (exD ps k) (encF (frameOf (exM ps k) 9))).2
def exA (ps : Nat → Nat) (k : Nat) : Arr × Int := (feedF takeF (exD ps k) (encF (frameOf (exM ps k) 9))).1
def exStep (ps : Nat → Nat) (k : Nat) : Bool := decide (frameOf (exM ps k) 9).ok && decide ((exA ps k).2 = 0) && decide ((exA ps k).1.ch = [0, 0, 1, 0, 1, 7].getD k 0) && decide ((exA ps k).1.word = 9) && decide ((exA ps k).1.lost = 0 ∧ (exA ps k).1.missed = 0 ∧ (exA ps k).1.broken = 0) && (decide ((exA ps k).1.pks.length = 1) == (decide (k = 3) || decide (k = 4)))
theorem ex_add1 (ps : Nat → Nat) : (mxAdd (exM0 ps) 0 (madeB 70 1)).2 = 0 := by kernel_rfl
theorem ex_add2 (ps : Nat → Nat) : (mxAdd (mxAdd (exM0 ps) 0 (madeB 70 1)).1 1 (madeB 40 2)).2 = 0 := by kernel_rfl
theorem ex_add3 (ps : Nat → Nat) : mxAdd (exM2 ps) 8 (madeB 40 2) = (exM2 ps, 2) := by kernel_rfl
theorem ex0 (ps : Nat → Nat) : exStep ps 0 = true := by kernel_rfl
theorem ex1 (ps : Nat → Nat) : exStep ps 1 = true := by kernel_rfl
theorem ex2 (ps : Nat → Nat) : exStep ps 2 = true := by kernel_rfl
theorem ex3 (ps : Nat → Nat) : exStep ps 3 = true := by kernel_rfl
theorem ex4 (ps : Nat → Nat) : exStep ps 4 = true := by kernel_rfl
theorem ex5 (ps : Nat → Nat) : exStep ps 5 = true := by kernel_rfl
theorem exW (ps : Nat → Nat) : mxWait (exM ps 6) 0 = 0 := by kernel_rfl
theorem exStep_all (ps : Nat → Nat) (k : Nat) (hk : k < 6) : (frameOf (exM ps k) 9).ok ∧ (exA ps k).2 = 0 ∧ (exA ps k).1.ch = [0, 0, 1, 0, 1, 7].getD k 0 ∧ (exA ps k).1.word = 9 ∧ ((exA ps k).1.lost = 0 ∧ (exA ps k).1.missed = 0 ∧ (exA ps k).1.broken = 0) ∧ ((exA ps k).1.pks.length = 1 ↔ (k = 3 ∨ k = 4)) := by
  have h : exStep ps k = true := by
    match k, hk with
    | 0, _ => exact ex0 ps
    | 1, _ => exact ex1 ps
    | 2, _ => exact ex2 ps
    | 3, _ => exact ex3 ps
    | 4, _ => exact ex4 ps
    | 5, _ => exact ex5 ps
  unfold exStep at h
  simp only [Bool.and_eq_true, decide_eq_true_eq, beq_iff_eq, ← Bool.decide_or, decide_eq_decide] at h
  exact ⟨h.1.1.1.1.1, h.1.1.1.1.2, h.1.1.1.2, h.1.1.2, h.1.2, h.2⟩
theorem exL_of {l : List Src} (h : NewL 32 (List.replicate 8 0) (2 :: List.replicate 7 1) 8 l) : ∃ ps, l = exL ps := by
  obtain ⟨hl, h⟩ := h
  match l, hl with
  | [a, b, c, d, e, f, g, i], _ =>
    obtain ⟨p0, rfl⟩ := h 0 _ rfl
    obtain ⟨p1, rfl⟩ := h 1 _ rfl
    obtain ⟨p2, rfl⟩ := h 2 _ rfl
    obtain ⟨p3, rfl⟩ := h 3 _ rfl
    obtain ⟨p4, rfl⟩ := h 4 _ rfl
    obtain ⟨p5, rfl⟩ := h 5 _ rfl
    obtain ⟨p6, rfl⟩ := h 6 _ rfl
    obtain ⟨p7, rfl⟩ := h 7 _ rfl
    exact ⟨fun i => [p0, p1, p2, p3, p4, p5, p6, p7].getD i 0, rfl⟩
/-- a new reference of a mux: no memory -/
def rnew (size : Nat) (prio share : List Int) : List RSrc := (List.range 8).map fun i => ⟨0, prio.getD i 0, share.getD i 0, 0, 0, ⟨size, [], false, []⟩⟩
theorem rnew_new (size : Nat) (prio share : List Int) : NewR size prio share 8 (rnew size prio share) := by
  refine ⟨by simp [rnew], fun i s h => ?_⟩
  simp only [rnew, List.getElem?_map, Option.map_eq_some_iff] at h
  obtain ⟨a, ha, rfl⟩ := h
  have := lt_of_get ha
  rw [List.length_range] at this
  rw [List.getElem?_range this] at ha
  cases ha
  exact ⟨0, rfl⟩
theorem exM0_mr (ps : Nat → Nat) : ∃ R, MR (exM0 ps) R := by
  refine ⟨_, New.mr (size := 32) (prio := List.replicate 8 0) (share := 2 :: List.replicate 7 1) ?_ ?_ (rnew_new 32 (List.replicate 8 0) (2 :: List.replicate 7 1))⟩
  · refine ⟨by decide, by decide, by decide, by decide, fun i hi => ?_⟩
    match i, hi with
    | 0, _ => exact ⟨by decide, by decide, by decide, by decide⟩
    | 1, _ => exact ⟨by decide, by decide, by decide, by decide⟩
    | 2, _ => exact ⟨by decide, by decide, by decide, by decide⟩
    | 3, _ => exact ⟨by decide, by decide, by decide, by decide⟩
    | 4, _ => exact ⟨by decide, by decide, by decide, by decide⟩
    | 5, _ => exact ⟨by decide, by decide, by decide, by decide⟩
    | 6, _ => exact ⟨by decide, by decide, by decide, by decide⟩
    | 7, _ => exact ⟨by decide, by decide, by decide, by decide⟩
  · refine ⟨rfl, fun i s h => ?_⟩
    have := lt_of_get h
    match i, this with
    | 0, _ => cases h; exact ⟨_, rfl⟩
    | 1, _ => cases h; exact ⟨_, rfl⟩
    | 2, _ => cases h; exact ⟨_, rfl⟩
    | 3, _ => cases h; exact ⟨_, rfl⟩
    | 4, _ => cases h; exact ⟨_, rfl⟩
    | 5, _ => cases h; exact ⟨_, rfl⟩
    | 6, _ => cases h; exact ⟨_, rfl⟩
    | 7, _ => cases h; exact ⟨_, rfl⟩
theorem exM1_mr (ps : Nat → Nat) : ∃ R, MR (mxAdd (exM0 ps) 0 (madeB 70 1)).1 R := by
  obtain ⟨R, h⟩ := exM0_mr ps
  exact ⟨_, (h.add 0 (madeB 70 1)).2⟩
theorem exM_mr (ps : Nat → Nat) : ∀ k, ∃ R, MR (exM ps k) R
  | 0 => by
    obtain ⟨R, h⟩ := exM1_mr ps
    exact ⟨_, (h.add 1 (madeB 40 2)).2⟩
  | k + 1 => by
    obtain ⟨R, h⟩ := exM_mr ps k
    exact ⟨_, (h.next 0).2⟩
theorem exD_dr (ps : Nat → Nat) : ∀ k, ∃ R, DR (exD ps k) R
  | 0 => ⟨_, newD_dr 1 32⟩
  | k + 1 => by
    obtain ⟨R, h⟩ := exD_dr ps k
    exact ⟨_, (feed_law h _).2.1⟩
end Sx
end Go.Proofs.Ytdgphamhpjnmpaa

/- The law's shown. -/
namespace Go.Proofs.Ytdgphamhpjnmpaa
namespace Sx

theorem DR.snk {D R : Dm} (h : DR D R) : (∀ s ∈ D.sinks, 0 ≤ s.count ∧ s.count ≤ 255 ∧ (s.begun = true → s.part.length ≤ 3000)) ∧ (∀ s ∈ R.sinks, 0 ≤ s.count ∧ s.count ≤ 255 ∧ (s.begun = true → s.part.length ≤ 3000)) := by
  refine ⟨fun s hs => ?_, fun t ht => ?_⟩
  · obtain ⟨i, hi, rfl⟩ := List.mem_iff_getElem.1 hs
    have := h.sr i _ _ (List.getElem?_eq_getElem hi) (List.getElem?_eq_getElem (by rw [h.tl, ← h.sl]; exact hi))
    exact ⟨this.c0.1, this.c0.2, fun q => by have := (this.pt q).2; omega⟩
  · obtain ⟨i, hi, rfl⟩ := List.mem_iff_getElem.1 ht
    have := h.sr i _ _ (List.getElem?_eq_getElem (by rw [h.sl, ← h.tl]; exact hi)) (List.getElem?_eq_getElem hi)
    have h0 := this.c0
    rw [this.ct] at h0
    refine ⟨h0.1, h0.2, fun q => ?_⟩
    have := this.pt (this.bg.trans q)
    rw [← this.1]; omega
theorem feed_dr {d : Nat} {D R : Dm} (h : DR D R) {b : List UInt8} (hb : b.length ≤ 2000) (hsz : D.size ≠ 0) :
    Fn Try.prog 11 #[P1 d 0, S b] [dmr 74 d D]
      (Ret fun v Q => ∃ ad c, v = .tuple #[arrV ad c (feedF takeF D b).1.1, .int .i64 (feedF takeF D b).1.2] ∧ Q = [dmr 74 d (feedF takeF D b).2, pown ad c (feedF takeF D b).1.1]) :=
  feed_ok hb hsz h.m0 h.sl h.snk.1
theorem rfeed_dr {d : Nat} {D R : Dm} (h : DR D R) {b : List UInt8} (hb : b.length ≤ 2000) :
    Fn Try.prog 12 #[P1 d 0, S b] [dmr 83 d R]
      (Ret fun v Q => ∃ ad c, v = .tuple #[arrV ad c (feedF fieldF R b).1.1, .int .i64 (feedF fieldF R b).1.2] ∧ Q = [dmr 83 d (feedF fieldF R b).2, pown ad c (feedF fieldF R b).1.1]) :=
  rfeed_ok hb (h.ms ▸ h.m0) h.tl h.snk.2
theorem encF_le {f : Tf} (h : f.ok) : (encF f).length ≤ 2000 := by
  rw [encF_len]; unfold Tf.ok at h; omega
theorem feed_size (T : Snk → Arr → Tf → Snk × Arr) (D : Dm) (b : List UInt8) : (feedF T D b).2.size = D.size ∧ (feedF T D b).2.craft = D.craft := by
  unfold feedF
  split
  · exact ⟨rfl, rfl⟩
  · split
    · exact ⟨rfl, rfl⟩
    · split
      · exact ⟨rfl, rfl⟩
      · unfold frameF
        split
        · exact ⟨rfl, rfl⟩
        · split <;> exact ⟨rfl, rfl⟩
theorem exD_size (ps : Nat → Nat) : ∀ k, (exD ps k).size = 32
  | 0 => rfl
  | k + 1 => by rw [exD, (feed_size _ _ _).1]; exact exD_size ps k
theorem shown_ok : Fn Try.prog 8 #[] [] (Ret fun v Q => v = .bool true ∧ Q = []) := by
  have hnew : Fn Try.prog 15 #[.int .i64 1, .int .i64 32, .agg (iv (List.replicate 8 0)).toArray, .agg (iv (2 :: List.replicate 7 1)).toArray] []
      (Ret fun v Q => ∃ m b c extra ps, v = .tuple #[P1 m 0, .int .i64 0] ∧ Q = mux3 m b c extra (exM0 ps)) :=
    (newmux_ok rfl rfl).ret fun v Q q => by
      obtain ⟨m, b, c, extra, l, h1, h2, h3⟩ := q.1 (by
        obtain ⟨R, hR⟩ := exM0_mr (fun _ => 0)
        refine ⟨by decide, by decide, by decide, by decide, fun i hi => ?_⟩
        have : ∀ i < 8, (0 : Int) ≤ (List.replicate 8 (0 : Int)).getD i 0 ∧ (List.replicate 8 (0 : Int)).getD i 0 ≤ 7 ∧ 1 ≤ ((2 : Int) :: List.replicate 7 1).getD i 0 ∧ ((2 : Int) :: List.replicate 7 1).getD i 0 ≤ 100 := by decide
        exact this i hi)
      obtain ⟨ps, rfl⟩ := exL_of h2
      exact ⟨m, b, c, extra, ps, h1, h3⟩
  have hnewd : Fn Try.prog 9 #[.int .i64 1, .int .i64 32] [] (Ret fun v Q => ∃ d, v = .tuple #[P1 d 0, .int .i64 0] ∧ Q = [dmr 74 d (newD 1 32)]) :=
    newdemux_ok.ret fun v Q q => q.1 ⟨by decide, by decide, by decide, by decide⟩
  have hadd1 : ∀ m b c extra ps, Fn Try.prog 19 #[P1 m 0, .int .i64 0, S (madeB 70 1)] (mux3 m b c extra (exM0 ps)) (Ret fun v Q => v = .int .i64 0 ∧ Q = mux3 m b c extra (mxAdd (exM0 ps) 0 (madeB 70 1)).1) := fun m b c extra ps => by
    obtain ⟨R, hR⟩ := exM0_mr ps
    have h := madd_ok (m := m) (b := b) (c := c) (extra := extra) hR.mok.1 (ch := 0) (p := madeB 70 1) (by decide)
    rw [ex_add1] at h; exact h
  have hadd2 : ∀ m b c extra ps, Fn Try.prog 19 #[P1 m 0, .int .i64 1, S (madeB 40 2)] (mux3 m b c extra (mxAdd (exM0 ps) 0 (madeB 70 1)).1) (Ret fun v Q => v = .int .i64 0 ∧ Q = mux3 m b c extra (exM2 ps)) := fun m b c extra ps => by
    obtain ⟨R, hR⟩ := exM1_mr ps
    have h := madd_ok (m := m) (b := b) (c := c) (extra := extra) hR.mok.1 (ch := 1) (p := madeB 40 2) (by decide)
    rw [ex_add2] at h; exact h
  have hadd3 : ∀ m b c extra ps, Fn Try.prog 19 #[P1 m 0, .int .i64 8, S (madeB 40 2)] (mux3 m b c extra (exM2 ps)) (Ret fun v Q => v = .int .i64 2 ∧ Q = mux3 m b c extra (exM2 ps)) := fun m b c extra ps => by
    obtain ⟨R, hR⟩ := exM_mr ps 0
    have h := madd_ok (m := m) (b := b) (c := c) (extra := extra) (M := exM2 ps) hR.mok.1 (ch := 8) (p := madeB 40 2) (by decide)
    rw [ex_add3] at h; exact h
  have hnext : ∀ m b c extra ps k, k < 6 → Fn Try.prog 21 #[P1 m 0, .int .u32 9] (mux3 m b c extra (exM ps k)) (Ret fun v Q => v = .tuple #[S (encF (frameOf (exM ps k) 9)), .int .i64 0] ∧ Q = mux3 m b c extra (exM ps (k + 1))) := fun m b c extra ps k hk => by
    obtain ⟨R, hR⟩ := exM_mr ps k
    have h := mnext_ok (m := m) (b := b) (c := c) (extra := extra) hR.good.1 (word := 9) (by decide)
    rw [if_pos (exStep_all ps k hk).1] at h; exact h
  have hfeed : ∀ d ps k, k < 6 → Fn Try.prog 11 #[P1 d 0, S (encF (frameOf (exM ps k) 9))] [dmr 74 d (exD ps k)] (Ret fun v Q => ∃ ad c, v = .tuple #[arrV ad c (exA ps k).1, .int .i64 0] ∧ Q = [dmr 74 d (exD ps (k + 1)), pown ad c (exA ps k).1]) := fun d ps k hk => by
    obtain ⟨R, hR⟩ := exD_dr ps k
    have h1 := exStep_all ps k hk
    have h := feed_dr (d := d) hR (b := encF (frameOf (exM ps k) 9)) (encF_le h1.1) (by rw [exD_size]; decide)
    rw [show (feedF takeF (exD ps k) (encF (frameOf (exM ps k) 9))).1.2 = 0 from h1.2.1] at h; exact h
  have hwait : ∀ m b c extra ps, Fn Try.prog 18 #[P1 m 0, .int .i64 0] (mux3 m b c extra (exM ps 6)) (Ret fun v Q => v = .int .i64 0 ∧ Q = mux3 m b c extra (exM ps 6)) := fun m b c extra ps => by
    obtain ⟨R, hR⟩ := exM_mr ps 6
    have h := mwait_ok (m := m) (b := b) (c := c) (extra := extra) hR.mok.1 (ch := 0)
    rw [exW] at h; exact h
  refine Fn.of (args := _) Try.func8 rfl Try.ntmps8 rfl ?_
  intro w0 g0
  refine CW.seq ?_
  refine CW.region ?_
  refine LW.v (ov_assign rfl) ?_
  refine LW.nil ?_
  refine KW.thenN ?_
  refine CW.seq ?_
  refine CW.region ?_
  refine LW.call [] (oc_fn cf28 rfl) rfl rfl rfl rfl (even_ok) ?_
  rintro _ _ ⟨rfl, rfl⟩
  simp only [putBack, List.append_nil]
  refine LW.v (ov_move rfl) ?_
  refine LW.v (ov_extract rfl rfl) ?_
  refine LW.v (ov_extract rfl rfl) ?_
  refine LW.opBA (ob_alloc zc38 (fun _ => .c (.n))) rfl rfl (fun b1 => ?_)
  refine LW.opBA (ob_alloc zc38 (fun _ => .c (.c (.n)))) rfl rfl (fun b2 => ?_)
  refine LW.opU (ou_storeW ta38 rfl rfl .agg rfl rfl (.h (.h (.h (.h (.h (.h (.h (.h (.n))))))))) (.t (.h))) rfl ?_
  refine LW.opU (ou_storeW ta38 rfl rfl .agg rfl rfl (.h (.h (.h (.h (.h (.h (.h (.h (.n))))))))) (.t (.t (.h)))) rfl ?_
  refine LW.nil ?_
  refine KW.thenN ?_
  refine CW.seq ?_
  refine CW.region ?_
  refine LW.v (ov_loadAR 1 ta38 rfl rfl (Tk.whole _ _ rfl)) ?_
  refine LW.v (ov_loadAR 2 ta38 rfl rfl (Tk.whole _ _ rfl)) ?_
  refine LW.call [] (oc_fn cf15 rfl) rfl rfl rfl rfl (hnew) ?_
  rintro _ _ ⟨m, b, c, extra, ps, rfl, rfl⟩
  simp only [putBack, List.cons_append, List.nil_append]
  refine LW.v (ov_move rfl) ?_
  refine LW.v (ov_extract rfl rfl) ?_
  refine LW.v (ov_extract rfl rfl) ?_
  refine LW.v (ov_assign rfl) ?_
  refine LW.v (ov_assign rfl) ?_
  refine LW.nil ?_
  refine KW.thenN ?_
  refine CW.seq ?_
  refine CW.region ?_
  refine LW.call [] (oc_fn cf9 rfl) rfl rfl rfl rfl (hnewd) ?_
  rintro _ _ ⟨d, rfl, rfl⟩
  simp only [putBack, List.cons_append, List.nil_append]
  refine LW.v (ov_move rfl) ?_
  refine LW.v (ov_extract rfl rfl) ?_
  refine LW.v (ov_extract rfl rfl) ?_
  refine LW.v (ov_assign rfl) ?_
  refine LW.v (ov_assign rfl) ?_
  refine LW.nil ?_
  refine KW.thenN ?_
  refine CW.seq ?_
  refine CW.seq ?_
  refine CW.region ?_
  refine LW.v (ov_move rfl) ?_
  refine LW.v (OpV.eq (ov_neq rfl rfl) (congrArg Value.bool (decide_eq_false (by first | omega | assumption)))) ?_
  refine LW.v (ov_move rfl) ?_
  refine LW.v (ov_move rfl) ?_
  refine LW.v (OpV.eq (ov_neq rfl rfl) (congrArg Value.bool (decide_eq_false (by first | omega | assumption)))) ?_
  first | refine LW.v (ov_pickT rfl rfl) ?_ | refine LW.v (ov_pickF rfl rfl) ?_ | refine LW.v (ov_pick rfl rfl rfl) ?_
  refine LW.v (ov_move rfl) ?_
  refine LW.v (ov_move rfl) ?_
  refine LW.v (ov_ptreql un47 rfl rfl (by simp)) ?_
  first | refine LW.v (ov_pickT rfl rfl) ?_ | refine LW.v (ov_pickF rfl rfl) ?_ | refine LW.v (ov_pick rfl rfl rfl) ?_
  refine LW.v (ov_move rfl) ?_
  refine LW.v (ov_move rfl) ?_
  refine LW.v (ov_ptreql un24 rfl rfl (by simp)) ?_
  first | refine LW.v (ov_pickT rfl rfl) ?_ | refine LW.v (ov_pickF rfl rfl) ?_ | refine LW.v (ov_pick rfl rfl rfl) ?_
  refine LW.v (ov_move rfl) ?_
  refine LW.v (ov_move rfl) ?_
  refine LW.call [] (oc_fn cf20 rfl) rfl rfl rfl rfl (made_ok (m := 63) (x := 1) (by omega)) ?_
  rintro _ _ ⟨rfl, rfl⟩
  simp only [putBack, List.append_nil]
  refine LW.call [3, 4, 5] (oc_fn cf19 rfl) rfl rfl rfl rfl (hadd1 m b c extra ps) ?_
  rintro _ _ ⟨rfl, rfl⟩
  simp only [putBack, List.set_cons_succ, List.set_cons_zero, List.append_nil]
  refine LW.v (OpV.eq (ov_neq rfl rfl) (congrArg Value.bool (decide_eq_false (by first | omega | assumption)))) ?_
  first | refine LW.v (ov_pickT rfl rfl) ?_ | refine LW.v (ov_pickF rfl rfl) ?_ | refine LW.v (ov_pick rfl rfl rfl) ?_
  refine LW.v (ov_move rfl) ?_
  refine LW.v (ov_move rfl) ?_
  refine LW.call [] (oc_fn cf20 rfl) rfl rfl rfl rfl (made_ok (m := 33) (x := 2) (by omega)) ?_
  rintro _ _ ⟨rfl, rfl⟩
  simp only [putBack, List.append_nil]
  refine LW.call [3, 4, 5] (oc_fn cf19 rfl) rfl rfl rfl rfl (hadd2 m b c extra ps) ?_
  rintro _ _ ⟨rfl, rfl⟩
  simp only [putBack, List.set_cons_succ, List.set_cons_zero, List.append_nil]
  refine LW.v (OpV.eq (ov_neq rfl rfl) (congrArg Value.bool (decide_eq_false (by first | omega | assumption)))) ?_
  first | refine LW.v (ov_pickT rfl rfl) ?_ | refine LW.v (ov_pickF rfl rfl) ?_ | refine LW.v (ov_pick rfl rfl rfl) ?_
  refine LW.v (ov_move rfl) ?_
  refine LW.v (ov_move rfl) ?_
  refine LW.call [] (oc_fn cf20 rfl) rfl rfl rfl rfl (made_ok (m := 33) (x := 2) (by omega)) ?_
  rintro _ _ ⟨rfl, rfl⟩
  simp only [putBack, List.append_nil]
  refine LW.call [3, 4, 5] (oc_fn cf19 rfl) rfl rfl rfl rfl (hadd3 m b c extra ps) ?_
  rintro _ _ ⟨rfl, rfl⟩
  simp only [putBack, List.set_cons_succ, List.set_cons_zero, List.append_nil]
  refine LW.v (OpV.eq (ov_neq rfl rfl) (congrArg Value.bool (decide_eq_false (by first | omega | assumption)))) ?_
  first | refine LW.v (ov_pickT rfl rfl) ?_ | refine LW.v (ov_pickF rfl rfl) ?_ | refine LW.v (ov_pick rfl rfl rfl) ?_
  refine LW.nil ?_
  refine KW.thenN ?_
  refine CW.condF rfl rfl ?_
  refine CW.skip ?_
  refine KW.thenN ?_
  refine CW.seq ?_
  refine CW.region ?_
  refine LW.v (ov_buildA ar78 ta3 zc78 rfl (.c rfl (.one rfl) rfl (.h (.n)) (.c rfl (.one rfl) rfl (.t (.h (.n))) (.c rfl (.one rfl) rfl (.t (.t (.h (.n)))) (.c rfl (.one rfl) rfl (.t (.t (.t (.h (.n))))) (.c rfl (.one rfl) rfl (.t (.t (.t (.t (.h (.n)))))) (.c rfl (.one rfl) rfl (.t (.t (.t (.t (.t (.h (.n))))))) (.n)))))))) ?_
  refine LW.opBA (ob_alloc zc78 (fun _ => .c (.c (.c (.c (.c (.c (.c (.n))))))))) rfl rfl (fun b7 => ?_)
  refine LW.opU (ou_storeW ta78 rfl rfl .agg rfl rfl (.h (.h (.h (.h (.h (.h (.n))))))) (.t (.t (.t (.t (.t (.t (.t (.h))))))))) rfl ?_
  refine LW.nil ?_
  refine KW.thenN ?_
  refine CW.seq ?_
  refine CW.seq ?_
  refine CW.region ?_
  refine LW.v (ov_assign rfl) ?_
  refine LW.nil ?_
  refine KW.thenN ?_
  refine CW.block ?_
  refine CW.loopW (fun r env As => ∃ k : Nat, k + r = 6 ∧ env = [(3, P1 m 0), (5, P1 d 0), (7, P1 b7 0), (8, .int .i64 k)] ∧ As = [ex g0, mrow m b c (exM ps k).craft (exM ps k).size (exM ps k).master, srow b extra (exM ps k).l, fils (exM ps k).l, dmr 74 d (exD ps k), row b7 78 (iv [0, 0, 1, 0, 1, 7])]) 6 [0, 3, 4, 5, 6, 7] ⟨0, rfl, rfl, rfl⟩ ⟨rfl, rfl, rfl, rfl, trivial⟩ rfl rfl ?_
  rintro r _ _ ⟨k, hkr, rfl, rfl⟩
  refine CW.seq ?_
  refine CW.seq ?_
  refine CW.region ?_
  refine LW.v (ov_move rfl) ?_
  refine LW.v (ov_lss rfl rfl) ?_
  refine LW.nil ?_
  refine KW.thenN ?_
  refine CW.condD (by rfl) (fun h => ?_) (fun h => ?_)
  · have hk : k < 6 := by omega
    have hst := exStep_all ps k hk
    have hfd := hfeed d ps k hk
    generalize exA ps k = A at hst hfd
    obtain ⟨⟨ch, dbl, lost, missed, pks, broken, word⟩, ae⟩ := A
    simp only at hst hfd
    obtain ⟨_, _, h1, h2, ⟨h3, h4, h5⟩, h6⟩ := hst
    have hwant : (iv [0, 0, 1, 0, 1, 7])[0 + k * 1]? = some (.int .i64 ([0, 0, 1, 0, 1, 7].getD k 0)) := getD_iv (by simp; omega)
    subst h3; subst h4; subst h5
    have g1 : ¬(ch ≠ [0, 0, 1, 0, 1, 7].getD k 0) := fun q => q h1
    have g2 : ¬(word ≠ 9) := fun q => q h2
    refine CW.skip ?_
    refine KW.thenN ?_
    refine CW.seq ?_
    refine CW.block ?_
    refine CW.seq ?_
    refine CW.region ?_
    refine LW.v (ov_move rfl) ?_
    refine LW.call [1, 2, 3] (oc_fn cf21 rfl) rfl rfl rfl rfl (hnext m b c extra ps k hk) ?_
    rintro _ _ ⟨rfl, rfl⟩
    simp only [putBack, List.set_cons_succ, List.set_cons_zero, List.append_nil]
    refine LW.v (ov_move rfl) ?_
    refine LW.v (ov_extract rfl rfl) ?_
    refine LW.v (ov_extract rfl rfl) ?_
    refine LW.v (ov_assign rfl) ?_
    refine LW.v (ov_assign rfl) ?_
    refine LW.nil ?_
    refine KW.thenN ?_
    refine CW.seq ?_
    refine CW.region ?_
    refine LW.v (ov_move rfl) ?_
    refine LW.v (ov_move rfl) ?_
    refine LW.call [4] (oc_fn cf11 rfl) rfl rfl rfl rfl (hfd) ?_
    rintro _ _ ⟨ad, c1, rfl, rfl⟩
    simp only [putBack, List.set_cons_succ, List.set_cons_zero, List.cons_append, List.nil_append]
    refine LW.v (ov_move rfl) ?_
    refine LW.v (ov_extract rfl rfl) ?_
    refine LW.v (ov_extract rfl rfl) ?_
    refine LW.opBA (ob_alloc zc33 (fun _ => .c (.c (.c (.c (.c (.c (.c (.n))))))))) rfl rfl (fun b11 => ?_)
    refine LW.opU (ou_storeW ta33 rfl rfl .agg rfl rfl (.h (.h (.h (.h (.h (.h (.h (.n)))))))) (.t (.t (.t (.t (.t (.t (.t (.h))))))))) rfl ?_
    refine LW.v (ov_assign rfl) ?_
    refine LW.nil ?_
    refine KW.thenN ?_
    refine CW.seq ?_
    by_cases hk3 : k = 3
    · have hl : (pks.length : Int) = 1 := by have := h6.2 (.inl hk3); omega
      refine CW.draw [5,7] rfl mixed rfl (ls := #[false, false, false, false, false, false, false, false, false, false, false, false, false, false, false, false, false, false, false, false, false, false, false, false, false, false, false, false, false, false, false, false, false, false, false, false, false, false, false, false, false, false, false]) (by kernel_rfl) ?_
      refine DW.tk 0 [5,7] rfl (ov_move rfl) ?_
      refine DW.tk 1 [5,7] rfl (OpV.eq (ov_neq rfl rfl) (congrArg Value.bool (decide_eq_false (by first | omega | assumption)))) ?_
      refine DW.tk 2 [5,7] rfl (ov_move rfl) ?_
      refine DW.tk 3 [5,7] rfl (ov_move rfl) ?_
      refine DW.tk 4 [5,7] rfl (OpV.eq (ov_neq rfl rfl) (congrArg Value.bool (decide_eq_false (by first | omega | assumption)))) ?_
      first | refine DW.tk 5 [5,7] rfl (ov_pickT rfl rfl) ?_ | refine DW.tk 5 [5,7] rfl (ov_pickF rfl rfl) ?_ | refine DW.tk 5 [5,7] rfl (ov_pick rfl rfl rfl) ?_
      refine DW.tk 6 [5,7] rfl (ov_move rfl) ?_
      refine DW.tk 7 [5,7] rfl (ov_fieldAddr fo33_0 rfl) ?_
      refine DW.tk 8 [5,7] rfl (ov_loadR 1 ta3 rfl rfl rfl) ?_
      refine DW.tk 9 [5,7] rfl (ov_move rfl) ?_
      refine DW.tk 10 [5,7] rfl (ov_idxA (i := k) ar78 ta3 rfl rfl rfl hk) ?_
      refine DW.tk 11 [5,7] rfl (ov_loadR 0 ta3 rfl rfl hwant) ?_
      refine DW.tk 12 [5,7] rfl (OpV.eq (ov_neq rfl rfl) (congrArg Value.bool (decide_eq_false (by first | omega | assumption)))) ?_
      first | refine DW.tk 13 [5,7] rfl (ov_pickT rfl rfl) ?_ | refine DW.tk 13 [5,7] rfl (ov_pickF rfl rfl) ?_ | refine DW.tk 13 [5,7] rfl (ov_pick rfl rfl rfl) ?_
      refine DW.tk 14 [5,7] rfl (ov_move rfl) ?_
      refine DW.tk 15 [5,7] rfl (ov_fieldAddr fo33_6 rfl) ?_
      refine DW.tk 16 [5,7] rfl (ov_loadR 1 ta31 rfl rfl rfl) ?_
      refine DW.tk 17 [5,7] rfl (OpV.eq (ov_neq rfl rfl) (congrArg Value.bool (decide_eq_false (by first | omega | assumption)))) ?_
      first | refine DW.tk 18 [5,7] rfl (ov_pickT rfl rfl) ?_ | refine DW.tk 18 [5,7] rfl (ov_pickF rfl rfl) ?_ | refine DW.tk 18 [5,7] rfl (ov_pick rfl rfl rfl) ?_
      refine DW.tk 19 [5,7] rfl (ov_move rfl) ?_
      refine DW.tk 20 [5,7] rfl (ov_fieldAddr fo33_2 rfl) ?_
      refine DW.tk 21 [5,7] rfl (ov_loadR 1 ta3 rfl rfl rfl) ?_
      refine DW.tk 22 [5,7] rfl (ov_fieldAddr fo33_3 rfl) ?_
      refine DW.tk 23 [5,7] rfl (ov_loadR 1 ta3 rfl rfl rfl) ?_
      refine DW.tk 24 [5,7] rfl (ov_add (m := 0) (n := 0) rfl rfl (by decide)) ?_
      refine DW.tk 25 [5,7] rfl (ov_fieldAddr fo33_5 rfl) ?_
      refine DW.tk 26 [5,7] rfl (ov_loadR 1 ta3 rfl rfl rfl) ?_
      refine DW.tk 27 [5,7] rfl (ov_add (m := 0 + 0) (n := 0) rfl rfl (by decide)) ?_
      refine DW.tk 28 [5,7] rfl (OpV.eq (ov_neq rfl rfl) (congrArg Value.bool (decide_eq_false (by first | omega | assumption)))) ?_
      first | refine DW.tk 29 [5,7] rfl (ov_pickT rfl rfl) ?_ | refine DW.tk 29 [5,7] rfl (ov_pickF rfl rfl) ?_ | refine DW.tk 29 [5,7] rfl (ov_pick rfl rfl rfl) ?_
      refine DW.tk 30 [5,7] rfl (ov_move rfl) ?_
      refine DW.tk 31 [5,7] rfl (ov_fieldAddr fo33_4 rfl) ?_
      refine DW.tk 32 [5,7] rfl (ov_loadR 1 ta22 rfl rfl rfl) ?_
      refine DW.tk 33 [5,7] rfl (ov_lenL so22 rfl) ?_
      refine DW.tk 34 [5,7] rfl (OpV.eq (ov_eql rfl rfl) (congrArg Value.bool (decide_eq_true (by first | omega | assumption)))) ?_
      refine DW.tk 35 [5,7] rfl (ov_move rfl) ?_
      refine DW.tk 36 [5,7] rfl (OpV.eq (ov_eql rfl rfl) (congrArg Value.bool (decide_eq_true (by first | omega | assumption)))) ?_
      refine DW.tk 37 [5,7] rfl (ov_move rfl) ?_
      refine DW.skip 38 [5,7] rfl (by kernel_rfl) (by kernel_rfl) (by kernel_rfl) (fun _ _ _ h => h) rfl rfl rfl rfl rfl ?_
      refine DW.skip 39 [5,7] rfl (by kernel_rfl) (by kernel_rfl) (by kernel_rfl) (fun _ _ _ h => h) rfl rfl rfl rfl rfl ?_
      first | refine DW.tk 40 [5,7] rfl (ov_pickT rfl rfl) ?_ | refine DW.tk 40 [5,7] rfl (ov_pickF rfl rfl) ?_ | refine DW.tk 40 [5,7] rfl (ov_pick rfl rfl rfl) ?_
      refine DW.tk 41 [5,7] rfl (ov_boolneq un4 rfl rfl) ?_
      first | refine DW.tk 42 [5,7] rfl (ov_pickT rfl rfl) ?_ | refine DW.tk 42 [5,7] rfl (ov_pickF rfl rfl) ?_ | refine DW.tk 42 [5,7] rfl (ov_pick rfl rfl rfl) ?_
      refine DW.done (by kernel_rfl) ?_
      refine KW.thenN ?_
      refine CW.condF rfl rfl ?_
      refine CW.skip ?_
      refine KW.blockN ?_
      refine KW.thenN ?_
      refine CW.region ?_
      refine LW.v (ov_move rfl) ?_
      first | refine LW.v (ov_add rfl rfl (by omega)) ?_ | refine LW.v (ov_addW rfl rfl) ?_
      refine LW.v (ov_assign rfl) ?_
      refine LW.nil ?_
      exact KW.again (r - 1) [0, 1, 2, 3, 4, 5] (by omega) ⟨k + 1, by omega, rfl, rfl⟩ ⟨rfl, rfl, rfl, rfl, trivial⟩ rfl rfl
    by_cases hk4 : k = 4
    · have hl : (pks.length : Int) = 1 := by have := h6.2 (.inr hk4); omega
      refine CW.draw [5,7] rfl mixed rfl (ls := #[false, false, false, false, false, false, false, false, false, false, false, false, false, false, false, false, false, false, false, false, false, false, false, false, false, false, false, false, false, false, false, false, false, false, false, false, false, false, false, false, false, false, false]) (by kernel_rfl) ?_
      refine DW.tk 0 [5,7] rfl (ov_move rfl) ?_
      refine DW.tk 1 [5,7] rfl (OpV.eq (ov_neq rfl rfl) (congrArg Value.bool (decide_eq_false (by first | omega | assumption)))) ?_
      refine DW.tk 2 [5,7] rfl (ov_move rfl) ?_
      refine DW.tk 3 [5,7] rfl (ov_move rfl) ?_
      refine DW.tk 4 [5,7] rfl (OpV.eq (ov_neq rfl rfl) (congrArg Value.bool (decide_eq_false (by first | omega | assumption)))) ?_
      first | refine DW.tk 5 [5,7] rfl (ov_pickT rfl rfl) ?_ | refine DW.tk 5 [5,7] rfl (ov_pickF rfl rfl) ?_ | refine DW.tk 5 [5,7] rfl (ov_pick rfl rfl rfl) ?_
      refine DW.tk 6 [5,7] rfl (ov_move rfl) ?_
      refine DW.tk 7 [5,7] rfl (ov_fieldAddr fo33_0 rfl) ?_
      refine DW.tk 8 [5,7] rfl (ov_loadR 1 ta3 rfl rfl rfl) ?_
      refine DW.tk 9 [5,7] rfl (ov_move rfl) ?_
      refine DW.tk 10 [5,7] rfl (ov_idxA (i := k) ar78 ta3 rfl rfl rfl hk) ?_
      refine DW.tk 11 [5,7] rfl (ov_loadR 0 ta3 rfl rfl hwant) ?_
      refine DW.tk 12 [5,7] rfl (OpV.eq (ov_neq rfl rfl) (congrArg Value.bool (decide_eq_false (by first | omega | assumption)))) ?_
      first | refine DW.tk 13 [5,7] rfl (ov_pickT rfl rfl) ?_ | refine DW.tk 13 [5,7] rfl (ov_pickF rfl rfl) ?_ | refine DW.tk 13 [5,7] rfl (ov_pick rfl rfl rfl) ?_
      refine DW.tk 14 [5,7] rfl (ov_move rfl) ?_
      refine DW.tk 15 [5,7] rfl (ov_fieldAddr fo33_6 rfl) ?_
      refine DW.tk 16 [5,7] rfl (ov_loadR 1 ta31 rfl rfl rfl) ?_
      refine DW.tk 17 [5,7] rfl (OpV.eq (ov_neq rfl rfl) (congrArg Value.bool (decide_eq_false (by first | omega | assumption)))) ?_
      first | refine DW.tk 18 [5,7] rfl (ov_pickT rfl rfl) ?_ | refine DW.tk 18 [5,7] rfl (ov_pickF rfl rfl) ?_ | refine DW.tk 18 [5,7] rfl (ov_pick rfl rfl rfl) ?_
      refine DW.tk 19 [5,7] rfl (ov_move rfl) ?_
      refine DW.tk 20 [5,7] rfl (ov_fieldAddr fo33_2 rfl) ?_
      refine DW.tk 21 [5,7] rfl (ov_loadR 1 ta3 rfl rfl rfl) ?_
      refine DW.tk 22 [5,7] rfl (ov_fieldAddr fo33_3 rfl) ?_
      refine DW.tk 23 [5,7] rfl (ov_loadR 1 ta3 rfl rfl rfl) ?_
      refine DW.tk 24 [5,7] rfl (ov_add (m := 0) (n := 0) rfl rfl (by decide)) ?_
      refine DW.tk 25 [5,7] rfl (ov_fieldAddr fo33_5 rfl) ?_
      refine DW.tk 26 [5,7] rfl (ov_loadR 1 ta3 rfl rfl rfl) ?_
      refine DW.tk 27 [5,7] rfl (ov_add (m := 0 + 0) (n := 0) rfl rfl (by decide)) ?_
      refine DW.tk 28 [5,7] rfl (OpV.eq (ov_neq rfl rfl) (congrArg Value.bool (decide_eq_false (by first | omega | assumption)))) ?_
      first | refine DW.tk 29 [5,7] rfl (ov_pickT rfl rfl) ?_ | refine DW.tk 29 [5,7] rfl (ov_pickF rfl rfl) ?_ | refine DW.tk 29 [5,7] rfl (ov_pick rfl rfl rfl) ?_
      refine DW.tk 30 [5,7] rfl (ov_move rfl) ?_
      refine DW.tk 31 [5,7] rfl (ov_fieldAddr fo33_4 rfl) ?_
      refine DW.tk 32 [5,7] rfl (ov_loadR 1 ta22 rfl rfl rfl) ?_
      refine DW.tk 33 [5,7] rfl (ov_lenL so22 rfl) ?_
      refine DW.tk 34 [5,7] rfl (OpV.eq (ov_eql rfl rfl) (congrArg Value.bool (decide_eq_true (by first | omega | assumption)))) ?_
      refine DW.tk 35 [5,7] rfl (ov_move rfl) ?_
      refine DW.tk 36 [5,7] rfl (OpV.eq (ov_eql rfl rfl) (congrArg Value.bool (decide_eq_false (by first | omega | assumption)))) ?_
      refine DW.tk 37 [5,7] rfl (ov_move rfl) ?_
      refine DW.tk 38 [5,7] rfl (ov_move rfl) ?_
      refine DW.tk 39 [5,7] rfl (OpV.eq (ov_eql rfl rfl) (congrArg Value.bool (decide_eq_true (by first | omega | assumption)))) ?_
      first | refine DW.tk 40 [5,7] rfl (ov_pickT rfl rfl) ?_ | refine DW.tk 40 [5,7] rfl (ov_pickF rfl rfl) ?_ | refine DW.tk 40 [5,7] rfl (ov_pick rfl rfl rfl) ?_
      refine DW.tk 41 [5,7] rfl (ov_boolneq un4 rfl rfl) ?_
      first | refine DW.tk 42 [5,7] rfl (ov_pickT rfl rfl) ?_ | refine DW.tk 42 [5,7] rfl (ov_pickF rfl rfl) ?_ | refine DW.tk 42 [5,7] rfl (ov_pick rfl rfl rfl) ?_
      refine DW.done (by kernel_rfl) ?_
      refine KW.thenN ?_
      refine CW.condF rfl rfl ?_
      refine CW.skip ?_
      refine KW.blockN ?_
      refine KW.thenN ?_
      refine CW.region ?_
      refine LW.v (ov_move rfl) ?_
      first | refine LW.v (ov_add rfl rfl (by omega)) ?_ | refine LW.v (ov_addW rfl rfl) ?_
      refine LW.v (ov_assign rfl) ?_
      refine LW.nil ?_
      exact KW.again (r - 1) [0, 1, 2, 3, 4, 5] (by omega) ⟨k + 1, by omega, rfl, rfl⟩ ⟨rfl, rfl, rfl, rfl, trivial⟩ rfl rfl
    · have hl : ¬((pks.length : Int) = 1) := fun q => by have := h6.1 (by omega); omega
      refine CW.draw [5,7] rfl mixed rfl (ls := #[false, false, false, false, false, false, false, false, false, false, false, false, false, false, false, false, false, false, false, false, false, false, false, false, false, false, false, false, false, false, false, false, false, false, false, false, false, false, false, false, false, false, false]) (by kernel_rfl) ?_
      refine DW.tk 0 [5,7] rfl (ov_move rfl) ?_
      refine DW.tk 1 [5,7] rfl (OpV.eq (ov_neq rfl rfl) (congrArg Value.bool (decide_eq_false (by first | omega | assumption)))) ?_
      refine DW.tk 2 [5,7] rfl (ov_move rfl) ?_
      refine DW.tk 3 [5,7] rfl (ov_move rfl) ?_
      refine DW.tk 4 [5,7] rfl (OpV.eq (ov_neq rfl rfl) (congrArg Value.bool (decide_eq_false (by first | omega | assumption)))) ?_
      first | refine DW.tk 5 [5,7] rfl (ov_pickT rfl rfl) ?_ | refine DW.tk 5 [5,7] rfl (ov_pickF rfl rfl) ?_ | refine DW.tk 5 [5,7] rfl (ov_pick rfl rfl rfl) ?_
      refine DW.tk 6 [5,7] rfl (ov_move rfl) ?_
      refine DW.tk 7 [5,7] rfl (ov_fieldAddr fo33_0 rfl) ?_
      refine DW.tk 8 [5,7] rfl (ov_loadR 1 ta3 rfl rfl rfl) ?_
      refine DW.tk 9 [5,7] rfl (ov_move rfl) ?_
      refine DW.tk 10 [5,7] rfl (ov_idxA (i := k) ar78 ta3 rfl rfl rfl hk) ?_
      refine DW.tk 11 [5,7] rfl (ov_loadR 0 ta3 rfl rfl hwant) ?_
      refine DW.tk 12 [5,7] rfl (OpV.eq (ov_neq rfl rfl) (congrArg Value.bool (decide_eq_false (by first | omega | assumption)))) ?_
      first | refine DW.tk 13 [5,7] rfl (ov_pickT rfl rfl) ?_ | refine DW.tk 13 [5,7] rfl (ov_pickF rfl rfl) ?_ | refine DW.tk 13 [5,7] rfl (ov_pick rfl rfl rfl) ?_
      refine DW.tk 14 [5,7] rfl (ov_move rfl) ?_
      refine DW.tk 15 [5,7] rfl (ov_fieldAddr fo33_6 rfl) ?_
      refine DW.tk 16 [5,7] rfl (ov_loadR 1 ta31 rfl rfl rfl) ?_
      refine DW.tk 17 [5,7] rfl (OpV.eq (ov_neq rfl rfl) (congrArg Value.bool (decide_eq_false (by first | omega | assumption)))) ?_
      first | refine DW.tk 18 [5,7] rfl (ov_pickT rfl rfl) ?_ | refine DW.tk 18 [5,7] rfl (ov_pickF rfl rfl) ?_ | refine DW.tk 18 [5,7] rfl (ov_pick rfl rfl rfl) ?_
      refine DW.tk 19 [5,7] rfl (ov_move rfl) ?_
      refine DW.tk 20 [5,7] rfl (ov_fieldAddr fo33_2 rfl) ?_
      refine DW.tk 21 [5,7] rfl (ov_loadR 1 ta3 rfl rfl rfl) ?_
      refine DW.tk 22 [5,7] rfl (ov_fieldAddr fo33_3 rfl) ?_
      refine DW.tk 23 [5,7] rfl (ov_loadR 1 ta3 rfl rfl rfl) ?_
      refine DW.tk 24 [5,7] rfl (ov_add (m := 0) (n := 0) rfl rfl (by decide)) ?_
      refine DW.tk 25 [5,7] rfl (ov_fieldAddr fo33_5 rfl) ?_
      refine DW.tk 26 [5,7] rfl (ov_loadR 1 ta3 rfl rfl rfl) ?_
      refine DW.tk 27 [5,7] rfl (ov_add (m := 0 + 0) (n := 0) rfl rfl (by decide)) ?_
      refine DW.tk 28 [5,7] rfl (OpV.eq (ov_neq rfl rfl) (congrArg Value.bool (decide_eq_false (by first | omega | assumption)))) ?_
      first | refine DW.tk 29 [5,7] rfl (ov_pickT rfl rfl) ?_ | refine DW.tk 29 [5,7] rfl (ov_pickF rfl rfl) ?_ | refine DW.tk 29 [5,7] rfl (ov_pick rfl rfl rfl) ?_
      refine DW.tk 30 [5,7] rfl (ov_move rfl) ?_
      refine DW.tk 31 [5,7] rfl (ov_fieldAddr fo33_4 rfl) ?_
      refine DW.tk 32 [5,7] rfl (ov_loadR 1 ta22 rfl rfl rfl) ?_
      refine DW.tk 33 [5,7] rfl (ov_lenL so22 rfl) ?_
      refine DW.tk 34 [5,7] rfl (OpV.eq (ov_eql rfl rfl) (congrArg Value.bool (decide_eq_false (by first | omega | assumption)))) ?_
      refine DW.tk 35 [5,7] rfl (ov_move rfl) ?_
      refine DW.tk 36 [5,7] rfl (OpV.eq (ov_eql rfl rfl) (congrArg Value.bool (decide_eq_false (by first | omega | assumption)))) ?_
      refine DW.tk 37 [5,7] rfl (ov_move rfl) ?_
      refine DW.tk 38 [5,7] rfl (ov_move rfl) ?_
      refine DW.tk 39 [5,7] rfl (OpV.eq (ov_eql rfl rfl) (congrArg Value.bool (decide_eq_false (by first | omega | assumption)))) ?_
      first | refine DW.tk 40 [5,7] rfl (ov_pickT rfl rfl) ?_ | refine DW.tk 40 [5,7] rfl (ov_pickF rfl rfl) ?_ | refine DW.tk 40 [5,7] rfl (ov_pick rfl rfl rfl) ?_
      refine DW.tk 41 [5,7] rfl (ov_boolneq un4 rfl rfl) ?_
      first | refine DW.tk 42 [5,7] rfl (ov_pickT rfl rfl) ?_ | refine DW.tk 42 [5,7] rfl (ov_pickF rfl rfl) ?_ | refine DW.tk 42 [5,7] rfl (ov_pick rfl rfl rfl) ?_
      refine DW.done (by kernel_rfl) ?_
      refine KW.thenN ?_
      refine CW.condF rfl rfl ?_
      refine CW.skip ?_
      refine KW.blockN ?_
      refine KW.thenN ?_
      refine CW.region ?_
      refine LW.v (ov_move rfl) ?_
      first | refine LW.v (ov_add rfl rfl (by omega)) ?_ | refine LW.v (ov_addW rfl rfl) ?_
      refine LW.v (ov_assign rfl) ?_
      refine LW.nil ?_
      exact KW.again (r - 1) [0, 1, 2, 3, 4, 5] (by omega) ⟨k + 1, by omega, rfl, rfl⟩ ⟨rfl, rfl, rfl, rfl, trivial⟩ rfl rfl
  · have hk6 : k = 6 := by omega
    have hw6 := hwait m b c extra ps
    rw [← hk6] at hw6
    refine CW.exit ?_
    refine KW.thenX ?_
    refine KW.thenX ?_
    refine KW.hit ?_
    refine KW.thenN ?_
    refine CW.seq ?_
    refine CW.region ?_
    refine LW.v (ov_move rfl) ?_
    refine LW.call [1, 2, 3] (oc_fn cf18 rfl) rfl rfl rfl rfl (hw6) ?_
    rintro _ _ ⟨rfl, rfl⟩
    simp only [putBack, List.set_cons_succ, List.set_cons_zero, List.append_nil]
    refine LW.v (ov_eql rfl rfl) ?_
    refine LW.v (ov_assign rfl) ?_
    refine LW.nil ?_
    refine KW.thenN ?_
    refine CW.ret ?_
    exact KW.retF (.cons (.tmp rfl) (.nil)) [] rfl rfl (⟨rfl, rfl⟩)
end Sx
end Go.Proofs.Ytdgphamhpjnmpaa

/- ChannelsDemux: the law's walk. -/
namespace Go.Proofs.Ytdgphamhpjnmpaa
namespace Sx

theorem ChannelsDemux_ok {W : World} {ad : Option Addr} {c : Nat} {M : List (List UInt8)} {craft size : Int} (hM : RdS W ad M) :
    Fn Try.prog 3 #[.int .i64 craft, .int .i64 size, .slice ad M.length c] [ex (hall W)] (Ret fun v Q => v = .bool true ∧ Q = [ex (hall W)]) := by
  refine Fn.of (args := _) Try.func3 rfl Try.ntmps3 rfl ?_
  intro w0 g0
  refine CW.seq ?_
  refine CW.region ?_
  refine LW.v (ov_assign rfl) ?_
  refine LW.nil ?_
  refine KW.thenN ?_
  refine CW.seq ?_
  refine CW.seq ?_
  refine CW.region ?_
  refine LW.call [] (oc_fn cf8 rfl) rfl rfl rfl rfl (shown_ok) ?_
  rintro _ _ ⟨rfl, rfl⟩
  simp only [putBack, List.append_nil]
  refine LW.v (ov_not rfl) ?_
  refine LW.nil ?_
  refine KW.thenN ?_
  refine CW.condF rfl rfl ?_
  refine CW.skip ?_
  refine KW.thenN ?_
  refine CW.seq ?_
  refine CW.seq ?_
  refine CW.region ?_
  refine LW.v (ov_move rfl) ?_
  refine LW.v (ov_lenL so22 rfl) ?_
  refine LW.v (ov_gtr rfl rfl) ?_
  refine LW.nil ?_
  refine KW.thenN ?_
  refine CW.condD (by rfl) (fun h => ?_) (fun h => ?_)
  · refine CW.seq ?_
    refine CW.region ?_
    refine LW.v (ov_assign rfl) ?_
    refine LW.nil ?_
    refine KW.thenN ?_
    refine CW.ret ?_
    refine KW.thenR ?_
    exact KW.retF (.cons (.tmp rfl) (.nil)) [1] rfl rfl (⟨rfl, rfl⟩)
  have hlen : M.length ≤ 300 := by omega
  by_cases hok : okD craft size
  · have hn1 : Fn Try.prog 9 #[.int .i64 craft, .int .i64 size] [] (Ret fun v Q => ∃ d, v = .tuple #[P1 d 0, .int .i64 0] ∧ Q = [dmr 74 d (newD craft size)]) := newdemux_ok.ret fun v Q q => q.1 hok
    have hn2 : Fn Try.prog 10 #[.int .i64 craft, .int .i64 size] [] (Ret fun v Q => ∃ d, v = .tuple #[P1 d 0, .int .i64 0] ∧ Q = [dmr 83 d (newD craft size)]) := rnewdemux_ok.ret fun v Q q => q.1 hok
    refine CW.skip ?_
    refine KW.thenN ?_
    refine CW.seq ?_
    refine CW.region ?_
    refine LW.v (ov_move rfl) ?_
    refine LW.v (ov_move rfl) ?_
    refine LW.call [] (oc_fn cf9 rfl) rfl rfl rfl rfl (hn1) ?_
    rintro _ _ ⟨d, rfl, rfl⟩
    simp only [putBack, List.cons_append, List.nil_append]
    refine LW.v (ov_move rfl) ?_
    refine LW.v (ov_extract rfl rfl) ?_
    refine LW.v (ov_extract rfl rfl) ?_
    refine LW.v (ov_assign rfl) ?_
    refine LW.v (ov_assign rfl) ?_
    refine LW.nil ?_
    refine KW.thenN ?_
    refine CW.seq ?_
    refine CW.region ?_
    refine LW.v (ov_move rfl) ?_
    refine LW.v (ov_move rfl) ?_
    refine LW.call [] (oc_fn cf10 rfl) rfl rfl rfl rfl (hn2) ?_
    rintro _ _ ⟨d', rfl, rfl⟩
    simp only [putBack, List.cons_append, List.nil_append]
    refine LW.v (ov_move rfl) ?_
    refine LW.v (ov_extract rfl rfl) ?_
    refine LW.v (ov_extract rfl rfl) ?_
    refine LW.v (ov_assign rfl) ?_
    refine LW.v (ov_assign rfl) ?_
    refine LW.nil ?_
    refine KW.thenN ?_
    refine CW.seq ?_
    refine CW.seq ?_
    refine CW.region ?_
    refine LW.v (ov_move rfl) ?_
    refine LW.v (ov_move rfl) ?_
    refine LW.v (OpV.eq (ov_neq rfl rfl) (congrArg Value.bool (decide_eq_false (by first | omega | assumption)))) ?_
    refine LW.v (ov_move rfl) ?_
    refine LW.v (ov_move rfl) ?_
    refine LW.v (ov_ptreql un24 rfl rfl (by simp)) ?_
    refine LW.v (ov_move rfl) ?_
    refine LW.v (OpV.eq (ov_neq rfl rfl) (congrArg Value.bool (decide_eq_false (by first | omega | assumption)))) ?_
    refine LW.v (ov_boolneq un4 rfl rfl) ?_
    first | refine LW.v (ov_pickT rfl rfl) ?_ | refine LW.v (ov_pickF rfl rfl) ?_ | refine LW.v (ov_pick rfl rfl rfl) ?_
    refine LW.nil ?_
    refine KW.thenN ?_
    refine CW.condF rfl rfl ?_
    refine CW.skip ?_
    refine KW.thenN ?_
    refine CW.seq ?_
    refine CW.seq ?_
    refine CW.region ?_
    refine LW.v (ov_assign rfl) ?_
    refine LW.nil ?_
    refine KW.thenN ?_
    refine CW.block ?_
    refine CW.loopW (fun n env As => ∃ (k : Nat) (D R : Dm), k + n = M.length ∧ DR D R ∧ D.size ≠ 0 ∧ env = [(2, .slice ad M.length c), (7, P1 d 0), (8, .int .i64 0), (9, P1 d' 0), (11, .int .i64 k)] ∧ As = [ex g0, ex (hall W), dmr 74 d D, dmr 83 d' R]) M.length [0, 1, 2, 3] ⟨0, _, _, by simp, newD_dr craft size, (by unfold okD at hok; show size ≠ 0; omega), rfl, rfl⟩ ⟨rfl, rfl, rfl, rfl, rfl, trivial⟩ rfl rfl ?_
    rintro n _ _ ⟨k, D, R, hkn, hD, hz, rfl, rfl⟩
    by_cases hk : k < M.length
    · obtain ⟨b, off, rfl, hcell⟩ := hM k hk
      generalize M[k] = s at hcell
      obtain ⟨l1, l2, l3⟩ := feed_law hD s
      refine CW.seq ?_
      refine CW.seq ?_
      refine CW.region ?_
      refine LW.v (ov_move rfl) ?_
      refine LW.v (ov_move rfl) ?_
      refine LW.v (ov_lenL so22 rfl) ?_
      refine LW.v (OpV.eq (ov_lss rfl rfl) (congrArg Value.bool (decide_eq_true (by first | omega | assumption)))) ?_
      refine LW.v (ov_move rfl) ?_
      refine LW.v (ov_move rfl) ?_
      refine LW.v (OpV.eq (ov_eql rfl rfl) (congrArg Value.bool (decide_eq_true (by first | omega | assumption)))) ?_
      first | refine LW.v (ov_pickT rfl rfl) ?_ | refine LW.v (ov_pickF rfl rfl) ?_ | refine LW.v (ov_pick rfl rfl rfl) ?_
      refine LW.nil ?_
      refine KW.thenN ?_
      refine CW.condT rfl rfl ?_
      refine CW.skip ?_
      refine KW.thenN ?_
      refine CW.seq ?_
      refine CW.block ?_
      refine CW.seq ?_
      refine CW.seq ?_
      refine CW.region ?_
      refine LW.v (ov_move rfl) ?_
      refine LW.v (ov_move rfl) ?_
      refine LW.v (ov_idxL so22 rfl rfl rfl (by omega)) ?_
      refine LW.v (ov_load ta9 rfl (fun w hs => hs.oldCell 1 rfl hcell)) ?_
      refine LW.v (ov_lenS un9 rfl) ?_
      refine LW.v (ov_gtr rfl rfl) ?_
      refine LW.nil ?_
      refine KW.thenN ?_
      refine CW.condD (by rfl) (fun h2 => ?_) (fun h2 => ?_)
      · refine CW.seq ?_
        refine CW.region ?_
        refine LW.v (ov_assign rfl) ?_
        refine LW.nil ?_
        refine KW.thenN ?_
        refine CW.ret ?_
        refine KW.thenR ?_
        refine KW.blockR ?_
        refine KW.thenR ?_
        refine KW.thenR ?_
        refine KW.blockR ?_
        refine KW.thenR ?_
        exact KW.retF (.cons (.tmp rfl) (.nil)) [1] rfl rfl (⟨rfl, rfl⟩)
      have hf1 := feed_dr (d := d) hD (b := s) (by omega) hz
      have hf2 := rfeed_dr (d := d') hD (b := s) (by omega)
      rw [← l1] at hf2
      have hz2 : (feedF takeF D s).2.size ≠ 0 := by rw [(feed_size _ _ _).1]; exact hz
      generalize feedF takeF D s = r at hf1 hf2 l2 l3 hz2
      obtain ⟨⟨a, e⟩, D2⟩ := r
      generalize (feedF fieldF R s).2 = R2 at hf2 l2
      simp only at hf1 hf2 l2 l3 hz2
      refine CW.skip ?_
      refine KW.thenN ?_
      refine CW.seq ?_
      refine CW.region ?_
      refine LW.v (ov_move rfl) ?_
      refine LW.v (ov_move rfl) ?_
      refine LW.v (ov_move rfl) ?_
      refine LW.v (ov_idxL so22 rfl rfl rfl (by omega)) ?_
      refine LW.v (ov_load ta9 rfl (fun w hs => hs.oldCell 1 rfl hcell)) ?_
      refine LW.call [2] (oc_fn cf11 rfl) rfl rfl rfl rfl (hf1) ?_
      rintro _ _ ⟨ad1, c1, rfl, rfl⟩
      simp only [putBack, List.set_cons_succ, List.set_cons_zero, List.cons_append, List.nil_append]
      refine LW.v (ov_move rfl) ?_
      refine LW.v (ov_extract rfl rfl) ?_
      refine LW.v (ov_extract rfl rfl) ?_
      refine LW.opBA (ob_alloc zc33 (fun _ => .c (.c (.c (.c (.c (.n))))))) rfl rfl (fun b12 => ?_)
      refine LW.opU (ou_storeW ta33 rfl rfl .agg rfl rfl (.h (.h (.h (.h (.h (.h (.h (.n)))))))) (.t (.t (.t (.t (.t (.h))))))) rfl ?_
      refine LW.v (ov_assign rfl) ?_
      refine LW.nil ?_
      refine KW.thenN ?_
      refine CW.seq ?_
      refine CW.region ?_
      refine LW.v (ov_move rfl) ?_
      refine LW.v (ov_move rfl) ?_
      refine LW.v (ov_move rfl) ?_
      refine LW.v (ov_idxL so22 rfl rfl rfl (by omega)) ?_
      refine LW.v (ov_load ta9 rfl (fun w hs => hs.oldCell 1 rfl hcell)) ?_
      refine LW.call [3] (oc_fn cf12 rfl) rfl rfl rfl rfl (hf2) ?_
      rintro _ _ ⟨ad2, c2, rfl, rfl⟩
      simp only [putBack, List.set_cons_succ, List.set_cons_zero, List.cons_append, List.nil_append]
      refine LW.v (ov_move rfl) ?_
      refine LW.v (ov_extract rfl rfl) ?_
      refine LW.v (ov_extract rfl rfl) ?_
      refine LW.opBA (ob_alloc zc33 (fun _ => .c (.c (.c (.c (.c (.c (.c (.n))))))))) rfl rfl (fun b14 => ?_)
      refine LW.opU (ou_storeW ta33 rfl rfl .agg rfl rfl (.h (.h (.h (.h (.h (.h (.h (.n)))))))) (.t (.t (.t (.t (.t (.t (.t (.h))))))))) rfl ?_
      refine LW.v (ov_assign rfl) ?_
      refine LW.nil ?_
      refine KW.thenN ?_
      refine CW.seq ?_
      refine CW.region ?_
      refine LW.v (ov_loadAR 5 ta33 rfl rfl (.h (.h (.h (.h (.h (.h (.h (.n))))))))) ?_
      refine LW.v (ov_loadAR 7 ta33 rfl rfl (.h (.h (.h (.h (.h (.h (.h (.n))))))))) ?_
      refine LW.call [4, 6] (oc_fn cf13 rfl) rfl rfl rfl rfl (same_ok (a := a) (by omega)) ?_
      rintro _ _ ⟨rfl, rfl⟩
      simp only [putBack, List.set_cons_succ, List.set_cons_zero, List.append_nil]
      refine LW.v (ov_not rfl) ?_
      refine LW.v (ov_move rfl) ?_
      refine LW.v (ov_move rfl) ?_
      refine LW.v (ov_move rfl) ?_
      refine LW.v (OpV.eq (ov_neq rfl rfl) (congrArg Value.bool (decide_eq_false (by first | omega | assumption)))) ?_
      first | refine LW.v (ov_pickT rfl rfl) ?_ | refine LW.v (ov_pickF rfl rfl) ?_ | refine LW.v (ov_pick rfl rfl rfl) ?_
      refine LW.nil ?_
      refine KW.thenN ?_
      refine CW.condF rfl rfl ?_
      refine CW.skip ?_
      refine KW.blockN ?_
      refine KW.thenN ?_
      refine CW.region ?_
      refine LW.v (ov_move rfl) ?_
      first | refine LW.v (ov_add rfl rfl (by omega)) ?_ | refine LW.v (ov_addW rfl rfl) ?_
      refine LW.v (ov_assign rfl) ?_
      refine LW.nil ?_
      exact KW.again (n - 1) [0, 1, 2, 3] (by omega) ⟨k + 1, D2, R2, by omega, l2, hz2, rfl, rfl⟩ ⟨rfl, rfl, rfl, rfl, rfl, trivial⟩ rfl rfl
    · refine CW.seq ?_
      refine CW.seq ?_
      refine CW.region ?_
      refine LW.v (ov_move rfl) ?_
      refine LW.v (ov_move rfl) ?_
      refine LW.v (ov_lenL so22 rfl) ?_
      refine LW.v (OpV.eq (ov_lss rfl rfl) (congrArg Value.bool (decide_eq_false (by first | omega | assumption)))) ?_
      refine LW.v (ov_move rfl) ?_
      refine LW.skip rfl rfl ?_
      refine LW.skip rfl rfl ?_
      first | refine LW.v (ov_pickT rfl rfl) ?_ | refine LW.v (ov_pickF rfl rfl) ?_ | refine LW.v (ov_pick rfl rfl rfl) ?_
      refine LW.nil ?_
      refine KW.thenN ?_
      refine CW.condF rfl rfl ?_
      refine CW.exit ?_
      refine KW.thenX ?_
      refine KW.thenX ?_
      refine KW.hit ?_
      refine KW.thenN ?_
      refine CW.seq ?_
      refine CW.region ?_
      refine LW.v (ov_assign rfl) ?_
      refine LW.nil ?_
      refine KW.thenN ?_
      refine CW.ret ?_
      exact KW.retF (.cons (.tmp rfl) (.nil)) [1] rfl rfl (⟨rfl, rfl⟩)
  · have hn1 : Fn Try.prog 9 #[.int .i64 craft, .int .i64 size] [] (Ret fun v Q => v = .tuple #[.pointer none, .int .i64 2] ∧ Q = []) := fun w g hs => (newdemux_ok w g hs).mono fun e w' ⟨Q, hq, hs2, hsame⟩ => by
      cases e with
      | returned v => exact ⟨[], ⟨hq.2 hok, rfl⟩, hs2.picks [0] rfl, hsame⟩
      | panicked _ => exact hq.elim
      | outgrown => exact hq.elim
    have hn2 : Fn Try.prog 10 #[.int .i64 craft, .int .i64 size] [] (Ret fun v Q => v = .tuple #[.pointer none, .int .i64 2] ∧ Q = []) := fun w g hs => (rnewdemux_ok w g hs).mono fun e w' ⟨Q, hq, hs2, hsame⟩ => by
      cases e with
      | returned v => exact ⟨[], ⟨hq.2 hok, rfl⟩, hs2.picks [0] rfl, hsame⟩
      | panicked _ => exact hq.elim
      | outgrown => exact hq.elim
    refine CW.skip ?_
    refine KW.thenN ?_
    refine CW.seq ?_
    refine CW.region ?_
    refine LW.v (ov_move rfl) ?_
    refine LW.v (ov_move rfl) ?_
    refine LW.call [] (oc_fn cf9 rfl) rfl rfl rfl rfl (hn1) ?_
    rintro _ _ ⟨rfl, rfl⟩
    simp only [putBack, List.append_nil]
    refine LW.v (ov_move rfl) ?_
    refine LW.v (ov_extract rfl rfl) ?_
    refine LW.v (ov_extract rfl rfl) ?_
    refine LW.v (ov_assign rfl) ?_
    refine LW.v (ov_assign rfl) ?_
    refine LW.nil ?_
    refine KW.thenN ?_
    refine CW.seq ?_
    refine CW.region ?_
    refine LW.v (ov_move rfl) ?_
    refine LW.v (ov_move rfl) ?_
    refine LW.call [] (oc_fn cf10 rfl) rfl rfl rfl rfl (hn2) ?_
    rintro _ _ ⟨rfl, rfl⟩
    simp only [putBack, List.append_nil]
    refine LW.v (ov_move rfl) ?_
    refine LW.v (ov_extract rfl rfl) ?_
    refine LW.v (ov_extract rfl rfl) ?_
    refine LW.v (ov_assign rfl) ?_
    refine LW.v (ov_assign rfl) ?_
    refine LW.nil ?_
    refine KW.thenN ?_
    refine CW.seq ?_
    refine CW.seq ?_
    refine CW.region ?_
    refine LW.v (ov_move rfl) ?_
    refine LW.v (ov_move rfl) ?_
    refine LW.v (OpV.eq (ov_neq rfl rfl) (congrArg Value.bool (decide_eq_false (by first | omega | assumption)))) ?_
    refine LW.v (ov_move rfl) ?_
    refine LW.v (ov_move rfl) ?_
    refine LW.v (ov_ptreql un24 rfl rfl (by simp)) ?_
    refine LW.v (ov_move rfl) ?_
    refine LW.v (OpV.eq (ov_neq rfl rfl) (congrArg Value.bool (decide_eq_true (by first | omega | assumption)))) ?_
    refine LW.v (ov_boolneq un4 rfl rfl) ?_
    first | refine LW.v (ov_pickT rfl rfl) ?_ | refine LW.v (ov_pickF rfl rfl) ?_ | refine LW.v (ov_pick rfl rfl rfl) ?_
    refine LW.nil ?_
    refine KW.thenN ?_
    refine CW.condF rfl rfl ?_
    refine CW.skip ?_
    refine KW.thenN ?_
    refine CW.seq ?_
    refine CW.seq ?_
    refine CW.region ?_
    refine LW.v (ov_assign rfl) ?_
    refine LW.nil ?_
    refine KW.thenN ?_
    refine CW.block ?_
    refine CW.loopW (fun n env As => n = 0 ∧ env = [(2, .slice ad M.length c), (8, .int .i64 2), (11, .int .i64 0)] ∧ As = [ex g0, ex (hall W)]) 0 [0, 1] ⟨rfl, rfl, rfl⟩ ⟨rfl, rfl, rfl, trivial⟩ rfl rfl ?_
    rintro n _ _ ⟨rfl, rfl, rfl⟩
    by_cases h0 : 0 < M.length
    · refine CW.seq ?_
      refine CW.seq ?_
      refine CW.region ?_
      refine LW.v (ov_move rfl) ?_
      refine LW.v (ov_move rfl) ?_
      refine LW.v (ov_lenL so22 rfl) ?_
      refine LW.v (OpV.eq (ov_lss rfl rfl) (congrArg Value.bool (decide_eq_true (by first | omega | assumption)))) ?_
      refine LW.v (ov_move rfl) ?_
      refine LW.v (ov_move rfl) ?_
      refine LW.v (OpV.eq (ov_eql rfl rfl) (congrArg Value.bool (decide_eq_false (by first | omega | assumption)))) ?_
      first | refine LW.v (ov_pickT rfl rfl) ?_ | refine LW.v (ov_pickF rfl rfl) ?_ | refine LW.v (ov_pick rfl rfl rfl) ?_
      refine LW.nil ?_
      refine KW.thenN ?_
      refine CW.condF rfl rfl ?_
      refine CW.exit ?_
      refine KW.thenX ?_
      refine KW.thenX ?_
      refine KW.hit ?_
      refine KW.thenN ?_
      refine CW.seq ?_
      refine CW.region ?_
      refine LW.v (ov_assign rfl) ?_
      refine LW.nil ?_
      refine KW.thenN ?_
      refine CW.ret ?_
      exact KW.retF (.cons (.tmp rfl) (.nil)) [1] rfl rfl (⟨rfl, rfl⟩)
    · refine CW.seq ?_
      refine CW.seq ?_
      refine CW.region ?_
      refine LW.v (ov_move rfl) ?_
      refine LW.v (ov_move rfl) ?_
      refine LW.v (ov_lenL so22 rfl) ?_
      refine LW.v (OpV.eq (ov_lss rfl rfl) (congrArg Value.bool (decide_eq_false (by first | omega | assumption)))) ?_
      refine LW.v (ov_move rfl) ?_
      refine LW.skip rfl rfl ?_
      refine LW.skip rfl rfl ?_
      first | refine LW.v (ov_pickT rfl rfl) ?_ | refine LW.v (ov_pickF rfl rfl) ?_ | refine LW.v (ov_pick rfl rfl rfl) ?_
      refine LW.nil ?_
      refine KW.thenN ?_
      refine CW.condF rfl rfl ?_
      refine CW.exit ?_
      refine KW.thenX ?_
      refine KW.thenX ?_
      refine KW.hit ?_
      refine KW.thenN ?_
      refine CW.seq ?_
      refine CW.region ?_
      refine LW.v (ov_assign rfl) ?_
      refine LW.nil ?_
      refine KW.thenN ?_
      refine CW.ret ?_
      exact KW.retF (.cons (.tmp rfl) (.nil)) [1] rfl rfl (⟨rfl, rfl⟩)
end Sx
end Go.Proofs.Ytdgphamhpjnmpaa

/- ChannelsDemux: for every craft, size and list of frames the law returns true; the arguments read as they did. No condition. -/
namespace Go.Proofs.Ytdgphamhpjnmpaa
open Go.ChangeShapes Go.WideShapes Go.ChangeAt Go.RowKit

theorem Try.own : ownKnob Try.prog.godebug = none := by kernel_rfl
theorem Try.laidOut : laidOutB Try.prog = true := by kernel_rfl
open Sx

set_option maxRecDepth 100000 in
theorem channelsDemux_lifted (os : Os) (started : os.Started) (H : Type) (enc : TypeId × Value → H) :
    ReturnsInHanded {} Try.checked os 3 .any (Rows.channelsDemuxSpec.pre6 enc Try.prog Try.f3 Rows.channelsDemuxRow.domain false) (Rows.channelsDemuxSpec.post enc Try.prog Try.f3 false true false false) := by
  refine returnsInHanded_of_change (C := Try.checked) Try.own started (by kernel_rfl) Try.func3
    (ChangeSpec.witness6 (enc := enc) (C := Try.checked) false ⟨#[], #[.int .i64 0, .int .i64 0, .slice none 0 0], []⟩ 8 (by kernel_rfl) (by kernel_rfl) (by kernel_rfl) (by kernel_rfl)) ?_
  intro W base args ds gs before hval0 hW hcnd _
  have hval : ∀ (j : Nat) t v, Try.f3.params[j]? = some t → args[j]? = some v → Value.okWide Try.prog W .any base t v := hval0
  have hW' := hW
  obtain ⟨p, q, hA0, hV, rfl, hfz, hnd⟩ := hW
  have hA : DataW.TrodAll enc Try.prog W 0 (fun _ => true) true Try.f3.params.toList args.toList ds p := hA0
  rw [Try.params3] at hA hval
  obtain ⟨v0, v1, v2, d0, d1, d2, p0, p1, p2, rfl, rfl, rfl, h0, h1, h2⟩ := trodAll_three hA
  obtain ⟨rfl, rfl⟩ := trodVars_none hV
  have h2k := h2
  obtain ⟨fuel2, hf2⟩ := h2
  clear hA0 hval0
  simp only [List.append_nil] at hW'
  have hlt : ∀ x, (x ∈ p0 ∨ x ∈ p1 ∨ x ∈ p2) → x.block < W.heap.size := fun x hx => by have h := hW'.lt x; simp only [List.mem_append] at h; exact h (by simpa [or_assoc] using hx)
  obtain ⟨craft, rfl, rfl, rfl, wx⟩ := open_int Try.underlying3 (hval 0 3 v0 rfl rfl) h0
  obtain ⟨size, rfl, rfl, rfl, wy⟩ := open_int Try.underlying3 (hval 1 3 v1 rfl rfl) h1
  obtain ⟨a2, len2, cap2, rfl⟩ := okWide_slice Try.underlying22 (hval 2 22 v2 rfl rfl)
  obtain ⟨_, hel2⟩ := open_scalars Try.underlying22 (k := .s) (by kernel_rfl) (by kernel_rfl) hf2
  obtain ⟨M, hM, hrd⟩ := strings_of hel2
  subst hM
  refine (Fn.row (ChannelsDemux_ok hrd)).mono fun e W' ⟨⟨v, he, hv⟩, hb⟩ => ?_
  subst he; subst hv
  exact ⟨_, rfl, ⟨_, _, _, [], _, [], hW', trodAll_mk1 (shut_bool Try.underlying4 true), trodAll_mk3 (shut_int Try.underlying3 wx) (shut_int Try.underlying3 wy) (Below.trod Try.laidOut (by kernel_rfl) (of_decide_eq_true (by kernel_rfl)) h2k hb (fun x hx => hlt x (.inr (.inr hx)))), rfl, hb.frame _, fun h => by cases h⟩⟩

theorem channelsDemux_holds : Rows.ChannelsDemuxSaid :=
  OpenClaim.holds_of_wide 3 Try.f3 rfl rfl rfl rfl rfl rfl rfl ⟨rfl, rfl, rfl, rfl, rfl⟩ rfl rfl rfl rfl rfl (by kernel_rfl) Try.func3 (by kernel_rfl)
    (of_decide_eq_true (by kernel_rfl)) (by unfold Func.isWrapper; first | (rw [if_pos (by decide +kernel)]; kernel_rfl) | (rw [if_neg (by decide +kernel)]; exact ⟨rfl, rfl⟩))
    (fun os started H enc _ => channelsDemux_lifted os started H enc)
#print axioms channelsDemux_holds
end Go.Proofs.Ytdgphamhpjnmpaa

