/- Contract: laid$1: what a verb needs is added to a line. -/
import Derived.Test.YtnldlakcopbpcaaGreatDoorShow
import Derived.Test.YtnldlakcopbpcaaGreatDoorParsed
namespace Go.Proofs.YtnldlakcopbpcaaGreatDoor
open Go.RowKit Go.Lib

def AddS : List UInt8 → ActD → ByteArray → ByteArray → Prop
  | [], _, s, s' => s' = s
  | c :: cs, a, s, s' => ∃ t, ShowS (c.toNat : Int) a t ∧ AddS cs a (s ++ ((⟨#[32]⟩ : ByteArray) ++ t)) s'

theorem ShowS.size {c : Int} {a : ActD} {t : ByteArray} (h : ShowS c a t) (ok : ActOk a) : t.size ≤ 1001 := by
  have hi : ∀ n, isI64 n → (itoaB n).size ≤ 1001 := fun n hn => by
    have := Lib.itoa_length_le n hn.1 hn.2
    show (Lib.itoa n).toArray.size ≤ 1001
    simp; omega
  unfold ShowS at h
  split at h
  · rw [h]; exact hi _ ok.thread
  split at h
  · rw [h]; exact hi _ ok.n
  split at h
  · rw [h]; exact hi _ ok.at_
  split at h
  · rw [h]; exact hi _ ok.opn
  split at h
  · rw [h]; exact Nat.le_trans ok.path (by decide)
  split at h
  · rw [h]; exact Nat.le_trans ok.dest (by decide)
  split at h
  · exact h.1
  split at h
  · exact Nat.le_trans h.1 (by decide)
  · exact h.elim

theorem field_part1 (x y : Value) (w : World) : (Instr.field 63 (.agg #[x, y]) 1).run Tryz.prog w = .ok y w := by kernel_rfl

def AddPost (needs : ByteArray) (a : ActD) (out : ByteArray) (ob : Nat) (w : World) (e : Ending) (w' : World) : Prop :=
  ∃ s', AddS needs.data.toList a out s' ∧ e = .returned (.tuple #[]) ∧ w'.heap[ob]? = some (.cells #[.string s'] 9) ∧ Fr [ob] w w'

def ARel (needs : ByteArray) (a : ActD) (out : ByteArray) (ob gb : Nat) (w : World) (i : Value) (wr : World) : Prop :=
  ∃ (k : Nat) (s : ByteArray), k ≤ needs.size ∧ i = .int .i64 (k : Int) ∧ s.size ≤ out.size + 1002 * k ∧ Hid (∀ s', AddS (needs.data.toList.drop k) a s s' → AddS needs.data.toList a out s') ∧ Hid (wr.heap[ob]? = some (.cells #[.string s] 9)) ∧
    Hid (Fr [ob] w wr) ∧ Hid (∀ i (h : i < needs.size), wr.cell? ⟨gb, i, none⟩ = some (.int .u8 ((needs[i]'h).toNat : Int)))

theorem ob_cells {w : World} {b : Nat} {s : ByteArray} (h : w.heap[b]? = some (.cells #[.string s] 9)) : w.cell? ⟨b, 0, none⟩ = some (.string s) ∧ w.frozen? ⟨b, 0, none⟩ = false :=
  ⟨cell_of_row w b 0 _ _ _ h, by unfold World.frozen?; rw [h]; simp⟩

set_option maxRecDepth 100000 in
set_option maxHeartbeats 8000000 in
theorem add_any {B : Nat} (name needs : ByteArray) (ob ab : Nat) (a : ActD) (vb vm : Value) (out : ByteArray) (w0 w : World) (hG : Gl B w) (hoB : B ≤ ob) (hob : w.heap[ob]? = some (.cells #[.string out] 9)) (hab : w.heap[ab]? = some (.cells (actCells a vb vm) 35))
    (hF0 : Fr [] w0 w) (how : w0.heap.size ≤ ob) (hne : ab ≠ ob) (ok : ActOk a) (hV : ActV w0 a (.agg (actCells a vb vm))) (hlet : ∀ c ∈ needs.data.toList, (c.toNat : Int) ∈ letters) (hns : needs.size ≤ 10) (hos : out.size ≤ 100000) :
    Calls Tryz.prog 25 #[.agg #[.string name, .string needs], .pointer (some ⟨ob, 0, none⟩), .pointer (some ⟨ab, 0, none⟩)] w (AddPost needs a out ob w) := by
  obtain ⟨cap, W1, hcv, hf1, hcells⟩ := conv_bytes (w.alloc (.cells #[.string name, .string needs] 58)) needs
  rw [World.size_alloc] at hcv hcells
  have hb0 := (Array.getElem?_eq_some_iff.1 hob).1
  have fr1 : Fr [] w W1 := ((Fr.refl [] w).alloc _).trans hf1
  obtain ⟨gb, hgb⟩ : ∃ gb, gb = w.heap.size + 1 := ⟨_, rfl⟩
  have hgn : gb ≠ ob := by omega
  rw [← hgb] at hcv hcells
  clear hgb
  have HC := Lib.hid hcells; have F1 := Lib.hid fr1; have HOB := Lib.hid hob; have HAB := Lib.hid hab; have HL := Lib.hid hlet; have HF0 := Lib.hid hF0; have HV := Lib.hid hV
  clear hcells fr1 hob hab hlet hF0 hV hf1
  go_enter Tryz.func25, Tryz.ntmps25
  go_wp2_with fail
  clear hcv
  go_loopw [5, 10] (fun _ i wr => ARel needs a out ob gb w i wr) (fun _ i _ => needs.size - (RowKit.intOf i).toNat)
  case atStart => exact ⟨0, out, by omega, rfl, by omega, Lib.hid (fun _ h => h), Lib.hid (F1.out.heap HOB.out (by simp)), Lib.hid F1.out.nil, HC⟩
  case round =>
    obtain ⟨k, s, hk, rfl, hss, hadd, hO, hF, hC⟩ := hrel
    by_cases hlt : k < needs.size
    · have hck := hC.out k hlt
      have hmem : (needs[k].toNat : Int) ∈ letters := HL.out _ (by exact List.getElem_mem (l := needs.data.toList) (by simpa using hlt))
      have HM := Lib.hid hmem; clear hmem
      generalize hcd : needs[k] = cc at *
      have HCC := Lib.hid hcd; clear hcd
      have hdr : needs.data.toList.drop k = cc :: needs.data.toList.drop (k + 1) := by
        rw [List.drop_eq_getElem_cons (by simpa using hlt)]; congr 1
      have HD := Lib.hid hdr; clear hdr
      have hGr : Hid (Gl B wr) := Lib.hid (hG.fr hF.out (fun x hx => by simp only [List.mem_singleton] at hx; omega))
      have hAr : Hid (wr.heap[ab]? = some (.cells (actCells a vb vm) 35)) := Lib.hid (hF.out.heap HAB.out (by simpa using hne))
      have hFr0 : Hid (Fr [] w0 wr) := Lib.hid (HF0.out.then hF.out (fun x hx => by simp only [List.mem_singleton] at hx; subst hx; exact .inr how))
      obtain ⟨x1, x2⟩ := ob_cells hO.out
      obtain ⟨d0, d1, d2, d3, d4, d5, d6, d7, d8, d9⟩ := act_cells hAr.out
      go_wp2_with fail
      go_region_with (first | (go_at_call 26; refine (parts_any _).mono ?_; rintro e w1 ⟨rfl, hP1, hF1⟩; obtain ⟨es, n, i, sh, cap2, sv, hm1, hfd, hent, hsh⟩ := part_show (B := B) _ HM.out _ _ _ hP1; have hlk : (Instr.lookup 64 (.map (some wr.heap.size)) (.int .u8 (cc.toNat : Int)) false).run Tryz.prog w1 = .ok (.agg #[sv, .func (.func sh) #[] cap2]) w1 := run_lookup_found _ Tryz.underlying64 Tryz.underlying5 (by simp [MapKept.IsKey]) hm1 hfd; have hfp := fun W => field_part1 sv (.func (.func sh) #[] cap2) W; have HSH := Lib.hid hsh; have F1' : Hid (Fr [] wr w1) := Lib.hid ((Fr.refl [] wr).drew.trans hF1); obtain ⟨y1, y2⟩ := ob_cells (F1'.out.heap hO.out (by simp)); obtain ⟨g0, g1, g2, g3, g4, g5, g6, g7, g8, g9⟩ := act_cells (F1'.out.heap hAr.out (by simp)); clear hP1 hfd hsh hF1 hm1) | (refine (HSH.out w1 (Fr.refl _ _) (hGr.out.fr0 F1'.out) a (.agg (actCells a vb vm)) ok (HV.out.fr0 (hFr0.out.trans F1'.out))).mono ?_; rintro e w2 ⟨t, hT, rfl, hF2⟩; have F2' : Hid (Fr [] wr w2) := Lib.hid (F1'.out.trans hF2); obtain ⟨z1, z2⟩ := ob_cells (F2'.out.heap hO.out (by simp)); obtain ⟨q0, q1, q2, q3, q4, q5, q6, q7, q8, q9⟩ := act_cells (F2'.out.heap hAr.out (by simp)); have hts := hT.size ok; have cc1 : (9223372036854775807 < 1 + t.size) = False := eq_false (by omega); have cc2 : (9223372036854775807 < s.size + (1 + t.size)) = False := eq_false (by omega); have HT := Lib.hid hT; clear hT hF2))
      all_goals
        go_wp2_with fail
        go_roundw
        case rel =>
          have hset := heap_setCell_same (j := 0) (F2'.out.heap hO.out (by simp)) (.string (s ++ ((⟨#[32]⟩ : ByteArray) ++ t)))
          have hfs : Fr [ob] wr (w2.setCell ⟨ob, 0, none⟩ (.string (s ++ ((⟨#[32]⟩ : ByteArray) ++ t)))) := F2'.out.nil.setCell _ _ (.inl (by simp))
          refine ⟨k + 1, s ++ ((⟨#[32]⟩ : ByteArray) ++ t), by omega, by go_num, ?_, Lib.hid (fun s' h => hadd.out s' (by rw [HD.out]; exact ⟨t, HT.out, h⟩)), Lib.hid (by simpa using hset), Lib.hid (hF.out.trans hfs), Lib.hid (fun i hi => hfs.cell (hC.out i hi) (by simpa using hgn))⟩
          rw [ByteArray.size_append, ByteArray.size_append]
          show s.size + (1 + t.size) ≤ _
          omega
        case measure => simp [RowKit.intOf]; omega
    · go_wp2_with fail
      go_end0
      have hd0 : needs.data.toList.drop k = [] := List.drop_eq_nil_of_le (by simp; omega)
      have hh := hadd.out s
      rw [hd0] at hh
      exact ⟨s, hh rfl, rfl, hO.out, hF.out⟩
end Go.Proofs.YtnldlakcopbpcaaGreatDoor
