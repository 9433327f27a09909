/- Contracts: which kind a word is the verb of. -/
import Derived.Test.YtnldlakcopbpcaaGreatDoorNum
import Derived.Test.YtnldlakcopbpcaaGreatDoorMaps
import Derived.BigRegion
import Derived.LoopTactic
import Derived.Laws.ResultCell
namespace Go.Proofs.YtnldlakcopbpcaaGreatDoor
open Go.RowKit

structure Verbs (es : Array MapEntry) (n : Nat) : Prop where
  form : ∀ x ∈ es.toList, ∃ (k : Int) (a b : ByteArray) (i : Nat), x = { key := .int .i64 k, val := .agg #[.string a, .string b], born := i }
  old : ∀ x ∈ es.toList, x.born < n
  nodup : (es.toList.map (·.born)).Nodup

def KindPost (es : Array MapEntry) (s : ByteArray) (w : World) (e : Ending) (w' : World) : Prop :=
  (∃ (k : Int) (b : ByteArray) (i : Nat), ({ key := .int .i64 k, val := .agg #[.string s, .string b], born := i } : MapEntry) ∈ es.toList ∧ e = .returned (.tuple #[.int .i64 k, .agg #[.string s, .string b]]) ∧ Fr [] w w') ∨
  ((∀ (k : Int) (b : ByteArray) (i : Nat), ({ key := .int .i64 k, val := .agg #[.string s, .string b], born := i } : MapEntry) ∉ es.toList) ∧ Panic380 e ∧ Fr [] w w')

def KRel (es : Array MapEntry) (s : ByteArray) (n r ib : Nat) (w wr : World) : Prop :=
  ∃ seen : Array Nat, Hid (wr.heap[ib]? = some (.mapIter (some r) n seen n)) ∧
    Hid (∀ x ∈ es.toList, seen.contains x.born = true → ∀ (k : Int) (b : ByteArray) (i : Nat), x ≠ { key := .int .i64 k, val := .agg #[.string s, .string b], born := i }) ∧ Hid (Fr [] w wr) ∧
    Hid (wr.heap[w.heap.size]? = some (.cells #[.string ⟨#[]⟩, .string ⟨#[]⟩] 58))


set_option maxRecDepth 100000 in
set_option maxHeartbeats 2000000 in
theorem kind29_any (s : ByteArray) (r n : Nat) (es : Array MapEntry) (w : World) (hr : w.heap[r]? = some (.map es n)) (hV : Verbs es n) :
    Calls Tryz.prog 29 #[.map (some r), .string s] w (KindPost es s w) := by
  have hrl := (Array.getElem?_eq_some_iff.1 hr).1
  have HR := Lib.hid hr; have HV := Lib.hid hV; clear hr hV
  have hrg : ∀ W : World, W.heap[r]? = some (.map es n) → (Instr.range 59 (.map (some r))).run Tryz.prog W = .ok (.pointer (some ⟨W.heap.size, 0, none⟩)) (W.alloc (.mapIter (some r) n #[] n)) := fun W h => run_range_map W 59 29 58 r es n Tryz.underlying59 h
  have hrg0 := hrg (w.alloc (.cells #[.string ⟨#[]⟩, .string ⟨#[]⟩] 58)) (by rw [Below.heap_alloc _ _ _ hrl]; exact HR.out)
  rw [World.size_alloc] at hrg0
  clear hrg
  go_enter Tryz.func29, Tryz.ntmps29
  go_wp2_with fail
  clear hrg0
  obtain ⟨ib, hib⟩ : ∃ ib, ib = w.heap.size + 1 := ⟨_, rfl⟩
  rw [← hib]
  have hil : w.heap.size < ib := by omega
  have HIB := Lib.hid hib; clear hib
  go_loopw [6] (fun _ wr => KRel es s n r ib w wr) (fun _ wr => (leftOf es (wr.iterSeen ib)).size)
  case atStart =>
    have h1 := alloc_heap_new (w.alloc (.cells #[.string ⟨#[]⟩, .string ⟨#[]⟩] 58)) (.mapIter (some r) n #[] n)
    rw [World.size_alloc, ← HIB.out] at h1
    have f1 : Fr [] w ((w.alloc (.cells #[.string ⟨#[]⟩, .string ⟨#[]⟩] 58)).alloc (.mapIter (some r) n #[] n)) := ((Fr.refl _ _).alloc _).alloc _
    have h2 : ((w.alloc (.cells #[.string ⟨#[]⟩, .string ⟨#[]⟩] 58)).alloc (.mapIter (some r) n #[] n)).heap[w.heap.size]? = some (.cells #[.string ⟨#[]⟩, .string ⟨#[]⟩] 58) := by
      rw [Below.heap_alloc _ _ _ (by simp)]; exact alloc_heap_new _ _
    exact ⟨#[], Lib.hid h1, Lib.hid (by simp), Lib.hid f1, Lib.hid h2⟩
  case round =>
    obtain ⟨seen, hit, hno, hfr, hcell⟩ := hrel
    have hm : wr.heap[r]? = some (.map es n) := hfr.out.heap HR.out (by simp)
    rcases run_next_map' (P := Tryz.prog) 0 hit.out hm HV.out.old (Nat.le_refl _) with ⟨h0, hnx⟩ | ⟨x, hx, w1, hf1, hk1, hnx⟩
    · have H0 := Lib.hid h0; clear h0
      clear hm
      go_wp2_with fail
      refine ⟨rfl, .inr ⟨?_, rfl, hfr.out⟩⟩
      intro k b i hmem
      have hseen : seen.contains i = true := by
        cases hc : seen.contains i with
        | true => rfl
        | false =>
          have h0 := H0.out
          unfold leftOf at h0
          have : ({ key := .int .i64 k, val := .agg #[.string s, .string b], born := i } : MapEntry) ∈ es.filter fun e => !seen.contains e.born := Array.mem_filter.2 ⟨Array.mem_toList_iff.1 hmem, by show (!seen.contains i) = true; rw [hc]; rfl⟩
          rw [Array.eq_empty_of_size_eq_zero h0] at this
          simp at this
      exact hno.out _ hmem hseen k b i rfl
    · have hxe := (mem_left hx).1
      obtain ⟨k, a, b, i, hxk⟩ := HV.out.form x hxe
      have hm1 : w1.heap[r]? = some (.map es n) := hf1.heap hm (by simp only [List.mem_singleton]; have := HIB.out; omega)
      have hen := run_entry_map' (P := Tryz.prog) hk1 hm1 hxe HV.out.nodup
      subst hxk
      have hfr1 : Fr [] w w1 := hfr.out.then hf1 (fun y hy => by simp only [List.mem_singleton] at hy; omega)
      have hs1 : w.heap.size < w1.heap.size := by have h2 := hf1.heap hcell.out (by simp only [List.mem_singleton]; omega); exact (Array.getElem?_eq_some_iff.1 h2).1
      have hc1 := hf1.heap hcell.out (by simp only [List.mem_singleton]; omega)
      have hlt1 : ib < w1.heap.size := (Array.getElem?_eq_some_iff.1 hk1).1
      have X := Lib.hid hx; have XE := Lib.hid hxe; have M1 := Lib.hid hm1; have F1 := Lib.hid hfr1; have K1 := Lib.hid hk1; have G1 := Lib.hid hf1
      clear hx hxe hm1 hfr1 hk1 hf1 hm
      by_cases hs : a = s
      · subst hs
        have d0 : w1.cell? ⟨w.heap.size, 0, none⟩ = some (.string ⟨#[]⟩) := cell_of_row w1 w.heap.size 0 _ _ _ hc1
        have d1 : w1.cell? ⟨w.heap.size, 1, none⟩ = some (.string ⟨#[]⟩) := cell_of_row w1 w.heap.size 1 _ _ _ hc1
        have fz0 : w1.frozen? ⟨w.heap.size, 0, none⟩ = false := by unfold World.frozen?; rw [hc1]; simp
        have fz1 : w1.frozen? ⟨w.heap.size, 1, none⟩ = false := by unfold World.frozen?; rw [hc1]; simp
        have e0 : (a.toList == a.toList) = true := by simp
        clear hc1
        go_wp2_with fail
        go_region
        all_goals
          go_wp2_with fail
          obtain ⟨q0, q1⟩ := two_cells (.string a) (.string b) (.cells #[.string a, .string b] 58) d0 d1
          refine bodyPost_ret (v := .tuple #[.int .i64 k, .agg #[.string a, .string b]]) (by simp [results, Tryz.results29, go_sem, q0, q1]) rfl ?_
          exact .inl ⟨k, b, i, XE.out, rfl, (((F1.out.setCell _ _ (.inr (Nat.le_refl _))).setCell _ _ (.inr (Nat.le_refl _))).alloc _).drew⟩
      · have e0 : (a.toList == s.toList) = false := toList_ne hs
        clear hc1 hs
        go_wp2_with fail
        go_roundw
        case rel =>
          refine ⟨seen.push i, Lib.hid (by rw [Below.heap_alloc _ _ _ hlt1]; exact K1.out), Lib.hid ?_, Lib.hid (F1.out.alloc _), Lib.hid (by rw [Below.heap_alloc _ _ _ hs1]; exact G1.out.heap hcell.out (by simp only [List.mem_singleton]; omega))⟩
          intro y hy hc k' b' i' hyk
          rw [contains_push, Bool.or_eq_true] at hc
          rcases hc with hc | hc
          · exact hno.out y hy hc k' b' i' hyk
          · have hb : y.born = i := by simpa using hc
            subst hyk
            have hx : (⟨.int .i64 k', .agg #[.string s, .string b'], i'⟩ : MapEntry) = ⟨.int .i64 k, .agg #[.string a, .string b], i⟩ := born_inj' HV.out.nodup hy XE.out hb
            have : s = a := by injection hx with _ h2 _; injection h2 with h3; have h4 := congrArg (fun z => z[0]?) h3; simpa using h4
            exact absurd e0 (by rw [this]; simp)
        case measure =>
          rw [iterSeen_of (w := (w1.alloc (.cells #[.string a, .string b] 58))) (by rw [Below.heap_alloc _ _ _ hlt1]; exact K1.out), iterSeen_of hit.out]
          exact left_shrinks es seen _ X.out


set_option maxRecDepth 100000 in
set_option maxHeartbeats 2000000 in
theorem kind32_any (s : ByteArray) (r n : Nat) (es : Array MapEntry) (w : World) (hr : w.heap[r]? = some (.map es n)) (hV : Verbs es n) :
    Calls Tryz.prog 32 #[.map (some r), .string s] w (KindPost es s w) := by
  have hrl := (Array.getElem?_eq_some_iff.1 hr).1
  have HR := Lib.hid hr; have HV := Lib.hid hV; clear hr hV
  have hrg : ∀ W : World, W.heap[r]? = some (.map es n) → (Instr.range 67 (.map (some r))).run Tryz.prog W = .ok (.pointer (some ⟨W.heap.size, 0, none⟩)) (W.alloc (.mapIter (some r) n #[] n)) := fun W h => run_range_map W 67 30 58 r es n Tryz.underlying67 h
  have hrg0 := hrg (w.alloc (.cells #[.string ⟨#[]⟩, .string ⟨#[]⟩] 58)) (by rw [Below.heap_alloc _ _ _ hrl]; exact HR.out)
  rw [World.size_alloc] at hrg0
  clear hrg
  go_enter Tryz.func32, Tryz.ntmps32
  go_wp2_with fail
  clear hrg0
  obtain ⟨ib, hib⟩ : ∃ ib, ib = w.heap.size + 1 := ⟨_, rfl⟩
  rw [← hib]
  have hil : w.heap.size < ib := by omega
  have HIB := Lib.hid hib; clear hib
  go_loopw [6] (fun _ wr => KRel es s n r ib w wr) (fun _ wr => (leftOf es (wr.iterSeen ib)).size)
  case atStart =>
    have h1 := alloc_heap_new (w.alloc (.cells #[.string ⟨#[]⟩, .string ⟨#[]⟩] 58)) (.mapIter (some r) n #[] n)
    rw [World.size_alloc, ← HIB.out] at h1
    have f1 : Fr [] w ((w.alloc (.cells #[.string ⟨#[]⟩, .string ⟨#[]⟩] 58)).alloc (.mapIter (some r) n #[] n)) := ((Fr.refl _ _).alloc _).alloc _
    have h2 : ((w.alloc (.cells #[.string ⟨#[]⟩, .string ⟨#[]⟩] 58)).alloc (.mapIter (some r) n #[] n)).heap[w.heap.size]? = some (.cells #[.string ⟨#[]⟩, .string ⟨#[]⟩] 58) := by
      rw [Below.heap_alloc _ _ _ (by simp)]; exact alloc_heap_new _ _
    exact ⟨#[], Lib.hid h1, Lib.hid (by simp), Lib.hid f1, Lib.hid h2⟩
  case round =>
    obtain ⟨seen, hit, hno, hfr, hcell⟩ := hrel
    have hm : wr.heap[r]? = some (.map es n) := hfr.out.heap HR.out (by simp)
    rcases run_next_map' (P := Tryz.prog) 0 hit.out hm HV.out.old (Nat.le_refl _) with ⟨h0, hnx⟩ | ⟨x, hx, w1, hf1, hk1, hnx⟩
    · have H0 := Lib.hid h0; clear h0
      clear hm
      go_wp2_with fail
      refine ⟨rfl, .inr ⟨?_, rfl, hfr.out⟩⟩
      intro k b i hmem
      have hseen : seen.contains i = true := by
        cases hc : seen.contains i with
        | true => rfl
        | false =>
          have h0 := H0.out
          unfold leftOf at h0
          have : ({ key := .int .i64 k, val := .agg #[.string s, .string b], born := i } : MapEntry) ∈ es.filter fun e => !seen.contains e.born := Array.mem_filter.2 ⟨Array.mem_toList_iff.1 hmem, by show (!seen.contains i) = true; rw [hc]; rfl⟩
          rw [Array.eq_empty_of_size_eq_zero h0] at this
          simp at this
      exact hno.out _ hmem hseen k b i rfl
    · have hxe := (mem_left hx).1
      obtain ⟨k, a, b, i, hxk⟩ := HV.out.form x hxe
      have hm1 : w1.heap[r]? = some (.map es n) := hf1.heap hm (by simp only [List.mem_singleton]; have := HIB.out; omega)
      have hen := run_entry_map' (P := Tryz.prog) hk1 hm1 hxe HV.out.nodup
      subst hxk
      have hfr1 : Fr [] w w1 := hfr.out.then hf1 (fun y hy => by simp only [List.mem_singleton] at hy; omega)
      have hs1 : w.heap.size < w1.heap.size := by have h2 := hf1.heap hcell.out (by simp only [List.mem_singleton]; omega); exact (Array.getElem?_eq_some_iff.1 h2).1
      have hc1 := hf1.heap hcell.out (by simp only [List.mem_singleton]; omega)
      have hlt1 : ib < w1.heap.size := (Array.getElem?_eq_some_iff.1 hk1).1
      have X := Lib.hid hx; have XE := Lib.hid hxe; have M1 := Lib.hid hm1; have F1 := Lib.hid hfr1; have K1 := Lib.hid hk1; have G1 := Lib.hid hf1
      clear hx hxe hm1 hfr1 hk1 hf1 hm
      by_cases hs : a = s
      · subst hs
        have d0 : w1.cell? ⟨w.heap.size, 0, none⟩ = some (.string ⟨#[]⟩) := cell_of_row w1 w.heap.size 0 _ _ _ hc1
        have d1 : w1.cell? ⟨w.heap.size, 1, none⟩ = some (.string ⟨#[]⟩) := cell_of_row w1 w.heap.size 1 _ _ _ hc1
        have fz0 : w1.frozen? ⟨w.heap.size, 0, none⟩ = false := by unfold World.frozen?; rw [hc1]; simp
        have fz1 : w1.frozen? ⟨w.heap.size, 1, none⟩ = false := by unfold World.frozen?; rw [hc1]; simp
        have e0 : (a.toList == a.toList) = true := by simp
        clear hc1
        go_wp2_with fail
        go_region
        all_goals
          go_wp2_with fail
          obtain ⟨q0, q1⟩ := two_cells (.string a) (.string b) (.cells #[.string a, .string b] 58) d0 d1
          refine bodyPost_ret (v := .tuple #[.int .i64 k, .agg #[.string a, .string b]]) (by simp [results, Tryz.results32, go_sem, q0, q1]) rfl ?_
          exact .inl ⟨k, b, i, XE.out, rfl, (((F1.out.setCell _ _ (.inr (Nat.le_refl _))).setCell _ _ (.inr (Nat.le_refl _))).alloc _).drew⟩
      · have e0 : (a.toList == s.toList) = false := toList_ne hs
        clear hc1 hs
        go_wp2_with fail
        go_roundw
        case rel =>
          refine ⟨seen.push i, Lib.hid (by rw [Below.heap_alloc _ _ _ hlt1]; exact K1.out), Lib.hid ?_, Lib.hid (F1.out.alloc _), Lib.hid (by rw [Below.heap_alloc _ _ _ hs1]; exact G1.out.heap hcell.out (by simp only [List.mem_singleton]; omega))⟩
          intro y hy hc k' b' i' hyk
          rw [contains_push, Bool.or_eq_true] at hc
          rcases hc with hc | hc
          · exact hno.out y hy hc k' b' i' hyk
          · have hb : y.born = i := by simpa using hc
            subst hyk
            have hx : (⟨.int .i64 k', .agg #[.string s, .string b'], i'⟩ : MapEntry) = ⟨.int .i64 k, .agg #[.string a, .string b], i⟩ := born_inj' HV.out.nodup hy XE.out hb
            have : s = a := by injection hx with _ h2 _; injection h2 with h3; have h4 := congrArg (fun z => z[0]?) h3; simpa using h4
            exact absurd e0 (by rw [this]; simp)
        case measure =>
          rw [iterSeen_of (w := (w1.alloc (.cells #[.string a, .string b] 58))) (by rw [Below.heap_alloc _ _ _ hlt1]; exact K1.out), iterSeen_of hit.out]
          exact left_shrinks es seen _ X.out


theorem verbs_ok : Verbs verbEs 5 := by
  refine ⟨?_, ?_, ?_⟩
  · intro x hx
    simp only [verbEs, List.mem_cons, List.not_mem_nil, or_false] at hx
    rcases hx with rfl | rfl | rfl | rfl | rfl <;> exact ⟨_, _, _, _, rfl⟩
  · intro x hx
    simp only [verbEs, List.mem_cons, List.not_mem_nil, or_false] at hx
    rcases hx with rfl | rfl | rfl | rfl | rfl <;> decide
  · decide
theorem opvs_ok : Verbs opvEs 11 := by
  refine ⟨?_, ?_, ?_⟩
  · intro x hx
    simp only [opvEs, List.mem_cons, List.not_mem_nil, or_false] at hx
    rcases hx with rfl | rfl | rfl | rfl | rfl | rfl | rfl | rfl | rfl | rfl | rfl <;> exact ⟨_, _, _, _, rfl⟩
  · intro x hx
    simp only [opvEs, List.mem_cons, List.not_mem_nil, or_false] at hx
    rcases hx with rfl | rfl | rfl | rfl | rfl | rfl | rfl | rfl | rfl | rfl | rfl <;> decide
  · decide
end Go.Proofs.YtnldlakcopbpcaaGreatDoor
