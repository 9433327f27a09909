/- Contracts: things as a word, one by one. -/
import Derived.Test.YtnldlakcopbpcaaGreatDoorPair
import Derived.Test.YtnldlakcopbpcaaGreatDoorClos
import Derived.Test.YtnldlakcopbpcaaGreatDoorShelf
import Derived.Lib.Builder
import Derived.Laws.EntriesVeiled
namespace Go.Proofs.YtnldlakcopbpcaaGreatDoor
open Go.RowKit Go.Lib

/-- A slice and what its cells hold. -/
def RowAt (w : World) (v : Value) (xs : List Value) : Prop :=
  (xs = [] ∧ ∃ ao cap, v = .slice ao 0 cap) ∨ ∃ b off cap, v = .slice (some ⟨b, off, none⟩) xs.length cap ∧ ∀ i (h : i < xs.length), w.cell? ⟨b, off + i, none⟩ = some xs[i]

theorem RowAt.fr0 {w w' : World} {v : Value} {xs : List Value} (h : RowAt w v xs) (f : Fr [] w w') : RowAt w' v xs := by
  rcases h with h | ⟨b, off, cap, e, h⟩
  · exact .inl h
  · exact .inr ⟨b, off, cap, e, fun i hi => f.cell0 (h i hi)⟩
theorem RowAt.slice {w : World} {v : Value} {xs : List Value} (h : RowAt w v xs) : ∃ ao cap, v = .slice ao xs.length cap := by
  rcases h with ⟨rfl, ao, cap, rfl⟩ | ⟨b, off, cap, rfl, _⟩
  · exact ⟨ao, cap, rfl⟩
  · exact ⟨_, cap, rfl⟩
theorem RowAt.of_own {w : World} {B : Nat} {e : TypeId} {v : Value} {xs : List Value} (h : w.ownsRow B e 1 v xs.length xs) : RowAt w v xs := by
  obtain ⟨h1, h2⟩ := h
  rcases h2 with ⟨rfl, h0⟩ | ⟨g, cap, cur, rfl, _, hg, _, _, _, ht⟩
  · exact .inl ⟨List.length_eq_zero_iff.1 h0, none, 0, rfl⟩
  · refine .inr ⟨g, 0, cap, rfl, fun i hi => ?_⟩
    rw [Nat.zero_add, cell_of_row _ _ _ _ _ _ hg]
    have : (cur.toList.take (xs.length * 1))[i]? = xs[i]? := by rw [ht]
    rw [List.getElem?_take_of_lt (by omega), List.getElem?_eq_getElem hi] at this
    simpa using this

theorem Fr.then_below {a b c : World} (h : Fr [] a b) (k : Below a.heap.size b c) : Fr [] a c :=
  ⟨k.os.trans h.os, k.tape.trans h.tape, k.output.trans h.output, Nat.le_trans h.size k.size, fun i hi hn => by rw [k.block i hi, h.block i hi hn]⟩

theorem BuilderAt.fr0 {B b : Nat} {p : Value} {bs : List Value} {w w' : World} (h : Lib.BuilderAt 107 5 B b p bs w) (f : Fr [] w w') : Lib.BuilderAt 107 5 B b p bs w' := by
  obtain ⟨h1, v, h2, h3, h4⟩ := h
  exact ⟨h1, v, f.heap h2 (by simp), ownsRow_fr0 h3 f, h4⟩
theorem IsBuilder.fr0 {B b : Nat} {bs : List Value} {w w' : World} (h : Lib.IsBuilder 107 5 B b bs w) (f : Fr [] w w') : Lib.IsBuilder 107 5 B b bs w' :=
  h.imp (fun h => BuilderAt.fr0 h f) (fun h => BuilderAt.fr0 h f)

theorem write_more {B : Nat} (b : Nat) (l : List UInt8) (s : ByteArray) (w : World) (h : Lib.IsBuilder 107 5 B b (Lib.byteCells l) w) (hlen : l.length + s.size ≤ 1000000) (hB : B ≤ w.heap.size) :
    Calls Tryz.prog 63 #[.pointer (some ⟨b, 0, none⟩), .string s] w fun e w' => e = .returned (.tuple #[.int .i64 s.size, .nilIface]) ∧ Lib.IsBuilder 107 5 B b (Lib.byteCells (l ++ s.data.toList)) w' ∧ Below B w w' :=
  (Tryz.Builder_WriteString B b (Lib.byteCells l) s w h (by rw [Lib.byteCells_length]; omega) hB).mono fun e w' ⟨h1, h2, h3⟩ =>
    ⟨h1, .inr (by simpa [Lib.byteCells, Lib.strCells] using h2), h3⟩

def LRel (per n : Nat) (w : World) (i : Value) (wr : World) : Prop :=
  ∃ (k : Nat) (l : List UInt8), k ≤ n ∧ i = .int .i64 (k : Int) ∧ l.length = per * k ∧ Hid (Lib.IsBuilder 107 5 w.heap.size w.heap.size (Lib.byteCells l) wr) ∧ Hid (Fr [] w wr)

def ListedPost (per n : Nat) (w : World) (e : Ending) (w' : World) : Prop := ∃ s : ByteArray, s.size ≤ per * n + 1 ∧ (n = 0 → s = ⟨#[45]⟩) ∧ e = .returned (.string s) ∧ Fr [] w w'

theorem builder_new (w : World) : Lib.IsBuilder 107 5 w.heap.size w.heap.size (Lib.byteCells []) (w.alloc (.cells #[.pointer none, .slice none 0 0] 107)) :=
  .inl ⟨Nat.le_refl _, .slice none 0 0, alloc_heap_new _ _, ⟨rfl, .inl ⟨rfl, rfl⟩⟩, by simp [Value.ownBlock]⟩

set_option maxRecDepth 100000 in
set_option maxHeartbeats 2000000 in
theorem listed_byte (ns : List Nat) (hn : ∀ n ∈ ns, n < 256) (hlen : ns.length ≤ 2000) (v : Value) (w : World) (hv : RowAt w v (ns.map u8v)) :
    Calls Tryz.prog 47 #[v, .func (.func 48) #[] #[]] w (ListedPost 2 ns.length w) := by
  have e48 : ∀ args w, (callFunc 48 args).run Tryz.prog w = .ok (.enter 48 args) w := enters_of Tryz.func48 (by kernel_rfl) rfl
  by_cases h0 : ns = []
  · subst h0
    obtain ⟨ao, cap, rfl⟩ := hv.slice
    go_enter Tryz.func47, Tryz.ntmps47
    go_wp2_with fail
    go_ret
    exact ⟨_, by decide, fun _ => rfl, rfl, Fr.refl _ _⟩
  · have hpos : 0 < ns.length := List.length_pos_iff.2 h0
    obtain ⟨b, off, cap, rfl, hcell⟩ : ∃ b off cap, v = .slice (some ⟨b, off, none⟩) ns.length cap ∧ ∀ i (h : i < ns.length), w.cell? ⟨b, off + i, none⟩ = some (.int .u8 (ns[i] : Int)) := by
      rcases hv with ⟨h, _⟩ | ⟨b, off, cap, e, h⟩
      · simp at h; exact absurd h h0
      · exact ⟨b, off, cap, by simpa using e, fun i hi => by have := h i (by simpa using hi); rw [List.getElem_map] at this; exact this⟩
    have e0 : ((ns.length : Int) == 0) = false := beq_eq_false_iff_ne.2 (by omega)
    have HC := Lib.hid hcell; have HN := Lib.hid hn; clear hcell hv hn
    go_enter Tryz.func47, Tryz.ntmps47
    go_wp2_with fail
    go_loopw [7, 13] (fun _ i wr => LRel 2 ns.length w i wr) (fun _ i _ => ns.length - (RowKit.intOf i).toNat)
    case atStart => exact ⟨0, [], by omega, rfl, rfl, Lib.hid (builder_new w), Lib.hid ((Fr.refl _ _).alloc _)⟩
    case round =>
      obtain ⟨k, l, hk, rfl, hl, hB, hF⟩ := hrel
      by_cases hlt : k < ns.length
      · have hck := hF.out.cell0 (HC.out k hlt)
        have hc : (0 : Int) ≤ (ns[k] : Int) ∧ (ns[k] : Int) < 256 := ⟨by omega, by have := HN.out _ (List.getElem_mem hlt); omega⟩
        go_wp2_with fail
        refine (pair_any _ hc _).mono ?_
        rintro e w2 ⟨s, hs, rfl, f2⟩
        go_wp2_with fail
        refine (write_more (B := w.heap.size) _ l s w2 (IsBuilder.fr0 hB.out f2) (by omega) (Nat.le_trans hF.out.size f2.size)).mono ?_
        rintro e w3 ⟨rfl, hB3, hb3⟩
        have F3 := Lib.hid ((hF.out.trans f2).then_below hb3)
        have B3 := Lib.hid hB3
        clear f2 hB3 hb3
        go_wp2_with fail
        go_roundw
        case rel => exact ⟨k + 1, _, by omega, by go_num, by rw [List.length_append, hl]; have : s.data.toList.length = s.size := (Lib.size_eq s).symm; omega, B3, F3⟩
        case measure => simp [RowKit.intOf]; omega
      · go_wp2_with fail
        refine (Tryz.Builder_String_any _ _ l wr hB.out hF.out.size).mono ?_
        rintro e w2 ⟨rfl, hb2⟩
        go_wp2_with fail
        go_ret
        exact ⟨_, by rw [Lib.size_eq]; simp; omega, fun h => by omega, rfl, hF.out.then_below hb2⟩

set_option maxRecDepth 100000 in
set_option maxHeartbeats 2000000 in
theorem listed_bool (ns : List Bool) (hlen : ns.length ≤ 2000) (v : Value) (w : World) (hv : RowAt w v (ns.map Value.bool)) :
    Calls Tryz.prog 52 #[v, .func (.func 53) #[] #[]] w (ListedPost 1 ns.length w) := by
  have e53 : ∀ args w, (callFunc 53 args).run Tryz.prog w = .ok (.enter 53 args) w := enters_of Tryz.func53 (by kernel_rfl) rfl
  by_cases h0 : ns = []
  · subst h0
    obtain ⟨ao, cap, rfl⟩ := hv.slice
    go_enter Tryz.func52, Tryz.ntmps52
    go_wp2_with fail
    go_ret
    exact ⟨_, by decide, fun _ => rfl, rfl, Fr.refl _ _⟩
  · have hpos : 0 < ns.length := List.length_pos_iff.2 h0
    obtain ⟨b, off, cap, rfl, hcell⟩ : ∃ b off cap, v = .slice (some ⟨b, off, none⟩) ns.length cap ∧ ∀ i (h : i < ns.length), w.cell? ⟨b, off + i, none⟩ = some (.bool ns[i]) := by
      rcases hv with ⟨h, _⟩ | ⟨b, off, cap, e, h⟩
      · simp at h; exact absurd h h0
      · exact ⟨b, off, cap, by simpa using e, fun i hi => by have := h i (by simpa using hi); rw [List.getElem_map] at this; exact this⟩
    have e0 : ((ns.length : Int) == 0) = false := beq_eq_false_iff_ne.2 (by omega)
    have HC := Lib.hid hcell; clear hcell hv
    go_enter Tryz.func52, Tryz.ntmps52
    go_wp2_with fail
    go_loopw [7, 13] (fun _ i wr => LRel 1 ns.length w i wr) (fun _ i _ => ns.length - (RowKit.intOf i).toNat)
    case atStart => exact ⟨0, [], by omega, rfl, rfl, Lib.hid (builder_new w), Lib.hid ((Fr.refl _ _).alloc _)⟩
    case round =>
      obtain ⟨k, l, hk, rfl, hl, hB, hF⟩ := hrel
      by_cases hlt : k < ns.length
      · have hck := hF.out.cell0 (HC.out k hlt)
        go_wp2_with fail
        refine (bit_any _ _).mono ?_
        rintro e w2 ⟨⟨s, hs, rfl⟩, rfl⟩
        have f2 : Fr [] wr wr := Fr.refl _ _
        go_wp2_with fail
        refine (write_more (B := w.heap.size) _ l s wr (IsBuilder.fr0 hB.out f2) (by omega) (Nat.le_trans hF.out.size f2.size)).mono ?_
        rintro e w3 ⟨rfl, hB3, hb3⟩
        have F3 := Lib.hid ((hF.out.trans f2).then_below hb3)
        have B3 := Lib.hid hB3
        clear f2 hB3 hb3
        go_wp2_with fail
        go_roundw
        case rel => exact ⟨k + 1, _, by omega, by go_num, by rw [List.length_append, hl]; have : s.data.toList.length = s.size := (Lib.size_eq s).symm; omega, B3, F3⟩
        case measure => simp [RowKit.intOf]; omega
      · go_wp2_with fail
        refine (Tryz.Builder_String_any _ _ l wr hB.out hF.out.size).mono ?_
        rintro e w2 ⟨rfl, hb2⟩
        go_wp2_with fail
        go_ret
        exact ⟨_, by rw [Lib.size_eq]; simp; omega, fun h => by omega, rfl, hF.out.then_below hb2⟩

end Go.Proofs.YtnldlakcopbpcaaGreatDoor
