/- Contracts: the next word of a line, and the filling of an act by a verb. -/
import Derived.Test.YtnldlakcopbpcaaGreatDoorClos
import Derived.Deep.RegionHeld3
namespace Go.Proofs.YtnldlakcopbpcaaGreatDoor
open Go.RowKit Go.Lib

/-- A reader's block, and the words that are left. -/
def WordsAt (w : World) (rb : Nat) (l : List ByteArray) : Prop :=
  ∃ ao cap, w.heap[rb]? = some (.cells #[.slice ao l.length cap] 75) ∧ l.length ≤ cap ∧ cap ≤ 9223372036854775807 ∧
    (l = [] ∨ ∃ g o cs fr, ao = some ⟨g, o, none⟩ ∧ w.heap[g]? = some (.cells cs 9 fr) ∧ ∀ i s, l[i]? = some s → cs[o + i]? = some (.string s))

theorem WordsAt.lt {w : World} {rb : Nat} {l : List ByteArray} (h : WordsAt w rb l) : rb < w.heap.size := by
  obtain ⟨_, _, h, _⟩ := h; exact (Array.getElem?_eq_some_iff.1 h).1
theorem ActAt.lt {B : Nat} {w : World} {b : Nat} {a : ActD} (h : ActAt B w b a) : b < w.heap.size := by
  obtain ⟨_, _, h, _⟩ := h; exact (Array.getElem?_eq_some_iff.1 h).1
theorem WordsAt.fr {w w' : World} {rb : Nat} {l : List ByteArray} {S : List Nat} (h : WordsAt w rb l) (f : Fr S w w') (hr : rb ∉ S) (hS : ∀ x ∈ S, ∀ cs fr, w.heap[x]? ≠ some (.cells cs 9 fr)) : WordsAt w' rb l := by
  obtain ⟨ao, cap, h1, h2, h3, h4⟩ := h
  refine ⟨ao, cap, f.heap h1 hr, h2, h3, ?_⟩
  rcases h4 with h4 | ⟨g, o, cs, fr, e, hg, hc⟩
  · exact .inl h4
  · exact .inr ⟨g, o, cs, fr, e, f.heap hg (fun hm => hS g hm cs fr hg), hc⟩
theorem WordsAt.fr0 {w w' : World} {rb : Nat} {l : List ByteArray} (h : WordsAt w rb l) (f : Fr [] w w') : WordsAt w' rb l := h.fr f (by simp) (by simp)
theorem WordsAt.fr_act {w w' : World} {rb : Nat} {l : List ByteArray} {B b : Nat} {a : ActD} (h : WordsAt w rb l) (f : Fr [b] w w') (hA : ActAt B w b a) : WordsAt w' rb l := by
  obtain ⟨vb, vm, hb, _⟩ := hA
  have hr := h
  obtain ⟨ao, cap, h1, _⟩ := hr
  refine h.fr f (fun hm => ?_) (fun x hx cs fr e => ?_)
  · simp only [List.mem_singleton] at hm; subst hm; rw [h1] at hb; simp at hb
  · simp only [List.mem_singleton] at hx; subst hx; rw [hb] at e; simp at e
theorem ActAt.fr_words {w w' : World} {rb : Nat} {l : List ByteArray} {B b : Nat} {a : ActD} (h : ActAt B w b a) (f : Fr [rb] w w') (hW : WordsAt w rb l) : ActAt B w' b a := by
  obtain ⟨ao, cap, h1, _⟩ := hW
  obtain ⟨vb, vm, hb, h2, h3⟩ := h
  refine ⟨vb, vm, f.heap hb (fun hm => ?_), ownsRow_fr h2 f (own_ne h2 h1 (by decide)), ownsRow_fr h3 f (own_ne h3 h1 (by decide))⟩
  simp only [List.mem_singleton] at hm; subst hm; rw [h1] at hb; simp at hb

def TakeOk (rb : Nat) (s : ByteArray) (rest : List ByteArray) (w : World) (e : Ending) (w' : World) : Prop :=
  e = .returned (.string s) ∧ WordsAt w' rb rest ∧ Fr [rb] w w'

set_option maxRecDepth 100000 in
set_option maxHeartbeats 1000000 in
theorem take_ok (rb : Nat) (s : ByteArray) (rest : List ByteArray) (w : World) (h : WordsAt w rb (s :: rest)) : Calls Tryz.prog 30 #[.pointer (some ⟨rb, 0, none⟩)] w (TakeOk rb s rest w) := by
  obtain ⟨ao, cap, h1, h2, h3, h4⟩ := h
  simp only [List.length_cons] at h1 h2
  obtain ⟨g, o, cs, fr, rfl, hg, h4⟩ : ∃ g o cs fr, ao = some ⟨g, o, none⟩ ∧ w.heap[g]? = some (.cells cs 9 fr) ∧ ∀ i t, (s :: rest)[i]? = some t → cs[o + i]? = some (.string t) := by
    rcases h4 with h4 | h4
    · cases h4
    · exact h4
  have hc : w.cell? ⟨g, o, none⟩ = some (.string s) := by rw [cell_of_row w g o _ _ _ hg]; exact h4 0 s rfl
  have hgr : g ≠ rb := fun e => by subst e; rw [h1] at hg; simp at hg
  have c0 : w.cell? ⟨rb, 0, none⟩ = some (.slice (some ⟨g, o, none⟩) (rest.length + 1) cap) := cell_of_row w rb 0 _ _ _ h1
  have fz : w.frozen? ⟨rb, 0, none⟩ = false := by unfold World.frozen?; rw [h1]; simp
  have e1 : decide ((0 : Int) < (rest.length : Int) + 1) = true := decide_eq_true (by omega)
  have hsl : ∃ ao', (∀ w, (Instr.slice 70 (.slice (some ⟨g, o, none⟩) (rest.length + 1) cap) (some (.int .i64 1)) none none).run Tryz.prog w = .ok (.slice ao' rest.length (cap - 1)) w) ∧ (0 < rest.length → ao' = some ⟨g, o + 1, none⟩) := by
    have hb : ∀ w, (Instr.sliceBound (.int .i64 1) (rest.length + 1) .sliceB).run Tryz.prog w = .ok 1 w := fun w => by simp [Instr.sliceBound, asIntOf, show (1 : Int) ≤ (rest.length : Int) + 1 from by omega]
    by_cases hcap : cap = 1
    · refine ⟨some ⟨g, o, none⟩, fun w => ?_, fun hr => by omega⟩
      simp [Instr.slice, run_underlying Tryz.underlying70, Instr.sliceBounds, hb, Tryz.sizeOf9, hcap, Result.andThen]
    · refine ⟨some ⟨g, o + 1, none⟩, fun w => ?_, fun _ => rfl⟩
      simp [Instr.slice, run_underlying Tryz.underlying70, Instr.sliceBounds, hb, Tryz.sizeOf9, hcap, Result.andThen, Addr.add]
  obtain ⟨ao', hsl, hao⟩ := hsl
  have H1 := Lib.hid h1; have H4 := Lib.hid h4; have HAO := Lib.hid hao; have HG := Lib.hid hg; clear h1 h4 hao hg
  go_enter Tryz.func30, Tryz.ntmps30
  go_wp2_with fail
  refine (must_ok 380 _).mono ?_
  rintro e w1 ⟨rfl, rfl⟩
  go_wp2_with fail
  go_ret
  have f : Fr [rb] w (w.setCell ⟨rb, 0, none⟩ (.slice ao' rest.length (cap - 1))) := (Fr.refl _ _).setCell _ _ (.inl (by simp))
  refine ⟨rfl, ⟨ao', cap - 1, by rw [heap_setCell_same H1.out]; rfl, by omega, by omega, ?_⟩, f⟩
  cases rest with
  | nil => exact .inl rfl
  | cons t rest => exact .inr ⟨g, o + 1, cs, fr, HAO.out (by simp), f.heap HG.out (by simpa using hgr), fun i u hu => by rw [show o + 1 + i = o + (i + 1) from by omega]; exact H4.out (i + 1) u (by simpa using hu)⟩

set_option maxRecDepth 100000 in
set_option maxHeartbeats 1000000 in
theorem take_no (rb : Nat) (w : World) (h : WordsAt w rb []) : Calls Tryz.prog 30 #[.pointer (some ⟨rb, 0, none⟩)] w (No380 w) := by
  obtain ⟨ao, cap, h1, -⟩ := h
  have c0 : w.cell? ⟨rb, 0, none⟩ = some (.slice ao 0 cap) := cell_of_row w rb 0 _ _ _ h1
  clear h1
  go_enter Tryz.func30, Tryz.ntmps30
  go_wp2_with fail
  refine (must_no 380 _).mono ?_
  rintro e w1 ⟨rfl, rfl⟩
  exact ⟨rfl, rfl, rfl⟩

def TakePost (rb : Nat) (ws : List ByteArray) (w : World) (e : Ending) (w' : World) : Prop :=
  (∃ s rest, ws = s :: rest ∧ e = .returned (.string s) ∧ WordsAt w' rb rest ∧ Fr [rb] w w') ∨ (ws = [] ∧ Panic380 e ∧ w = w')
theorem take_any (rb : Nat) (ws : List ByteArray) (w : World) (h : WordsAt w rb ws) : Calls Tryz.prog 30 #[.pointer (some ⟨rb, 0, none⟩)] w (TakePost rb ws w) := by
  cases ws with
  | nil => exact (take_no rb w h).mono fun e w' ⟨h1, h2⟩ => .inr ⟨rfl, h1, h2⟩
  | cons s rest => exact (take_ok rb s rest w h).mono fun e w' ⟨h1, h2, h3⟩ => .inl ⟨s, rest, rfl, h1, h2, h3⟩

def fillL : List UInt8 → ActD → List ByteArray → Option (ActD × List ByteArray)
  | [], a, ws => some (a, ws)
  | _ :: _, _, [] => none
  | c :: cs, a, s :: ws =>
    match fill1 (c.toNat : Int) a s with
    | none => none
    | some a' => fillL cs a' ws

theorem conv_bytes (w : World) (s : ByteArray) : ∃ cap w1, (convert 9 23 (.string s)).run Tryz.prog w = .ok (.slice (some ⟨w.heap.size, 0, none⟩) s.size cap) w1 ∧ Fr [] w w1 ∧
    ∀ i (h : i < s.size), w1.cell? ⟨w.heap.size, i, none⟩ = some (.int .u8 ((s[i]'h).toNat : Int)) := by
  refine ⟨_, _, Lib.run_convert_string_bytes w 9 23 5 s Tryz.underlying9 Tryz.underlying23 Tryz.underlying5, fr_bytesWorld w 5 s, fun i h => ?_⟩
  have hh : (Lib.bytesWorld w 5 s).heap[w.heap.size]? = some (.cells (Lib.bytesCells w 5 s) 5 ((Lib.bytesCells w 5 s).size, (Lib.bytesCells w 5 s).size + 1)) := by
    simp only [Lib.bytesWorld, World.freeze]
    rw [if_neg (by decide)]
    show (((w.heap.push (Obj.cells (Lib.bytesCells w 5 s) 5)).modify w.heap.size _)[w.heap.size]?) = _
    rw [Array.getElem?_modify, if_pos rfl]
    simp
  rw [cell_of_row _ _ _ _ _ _ hh]
  unfold Lib.bytesCells
  rw [Array.getElem?_append_left (by simp; exact h)]
  simp [Array.getElem?_map]
  exact ⟨s.data[i]'h, Array.getElem?_eq_getElem h, rfl⟩

theorem field_part (x y : Value) (w : World) : (Instr.field 63 (.agg #[x, y]) 0).run Tryz.prog w = .ok x w := by kernel_rfl

theorem steps3 {b rb : Nat} {wr w1 w2 w3 : World} (f1 : Fr [] wr.drew w1) (f2 : Fr [rb] w1 w2) (f3 : Fr [b] w2 w3) : Fr [b, rb] wr w3 :=
  ((((Fr.refl [] wr).drew.trans f1).nil (S := [b, rb])).then f2 (fun x hx => .inl (by simp only [List.mem_singleton] at hx; simp [hx]))).then f3 (fun x hx => .inl (by simp only [List.mem_singleton] at hx; simp [hx]))

def FillPost (B : Nat) (needs : ByteArray) (a : ActD) (ws : List ByteArray) (b rb : Nat) (w : World) (e : Ending) (w' : World) : Prop :=
  (∃ a' ws', fillL needs.data.toList a ws = some (a', ws') ∧ e = .returned (.tuple #[]) ∧ ActAt B w' b a' ∧ WordsAt w' rb ws' ∧ Fr [b, rb] w w') ∨
  (fillL needs.data.toList a ws = none ∧ Panic380 e ∧ Fr [b, rb] w w')

def FRel (B : Nat) (needs : ByteArray) (a : ActD) (ws : List ByteArray) (b rb gb : Nat) (w : World) (i : Value) (wr : World) : Prop :=
  ∃ (k : Nat) (a' : ActD) (ws' : List ByteArray), k ≤ needs.size ∧ i = .int .i64 (k : Int) ∧ Hid (fillL needs.data.toList a ws = fillL (needs.data.toList.drop k) a' ws') ∧ Hid (ActAt B wr b a') ∧ Hid (WordsAt wr rb ws') ∧
    Hid (Fr [b, rb] w wr) ∧ Hid (∀ i (h : i < needs.size), wr.cell? ⟨gb, i, none⟩ = some (.int .u8 ((needs[i]'h).toNat : Int))) ∧ Hid (gb ≠ b ∧ gb ≠ rb) ∧ Hid (∀ s ∈ ws', s.size ≤ 1000000)

set_option maxRecDepth 100000 in
set_option maxHeartbeats 4000000 in
theorem fill_any {B : Nat} (name needs : ByteArray) (b rb : Nat) (a : ActD) (ws : List ByteArray) (w : World) (hG : Gl B w) (hbB : B ≤ b) (hrB : B ≤ rb) (hbr : b ≠ rb) (hA : ActAt B w b a) (hW : WordsAt w rb ws) (hsz : ∀ s ∈ ws, s.size ≤ 1000000)
    (hlet : ∀ c ∈ needs.data.toList, (c.toNat : Int) ∈ letters) (hns : needs.size ≤ 1000) :
    Calls Tryz.prog 31 #[.pointer (some ⟨rb, 0, none⟩), .pointer (some ⟨b, 0, none⟩), .agg #[.string name, .string needs]] w (FillPost B needs a ws b rb w) := by
  obtain ⟨cap, W1, hcv, hf1, hcells⟩ := conv_bytes (w.alloc (.cells #[.string name, .string needs] 58)) needs
  rw [World.size_alloc] at hcv hcells
  have hb0 := hA.lt
  have hr0 := hW.lt
  have fr1 : Fr [] w W1 := ((Fr.refl [] w).alloc _).trans hf1
  obtain ⟨gb, hgb⟩ : ∃ gb, gb = w.heap.size + 1 := ⟨_, rfl⟩
  have hgn : gb ≠ b ∧ gb ≠ rb := by omega
  rw [← hgb] at hcv hcells
  clear hgb
  have HC := Lib.hid hcells; have F1 := Lib.hid fr1; have HA := Lib.hid hA; have HW := Lib.hid hW; have HSZ := Lib.hid hsz; have HL := Lib.hid hlet; have GN := Lib.hid hgn; have BR := Lib.hid hbr
  clear hcells fr1 hA hW hsz hlet hf1 hgn hbr
  go_enter Tryz.func31, Tryz.ntmps31
  go_wp2_with fail
  clear hcv
  go_loopw [7, 12] (fun _ i wr => FRel B needs a ws b rb gb w i wr) (fun _ i _ => needs.size - (RowKit.intOf i).toNat)
  case atStart => exact ⟨0, a, ws, by omega, rfl, Lib.hid rfl, Lib.hid (HA.out.fr0 F1.out), Lib.hid (HW.out.fr0 F1.out), Lib.hid F1.out.nil, HC, GN, HSZ⟩
  case round =>
    obtain ⟨k, a', ws', hk, rfl, hfill, hA, hW, hF, hC, hgn, hsz⟩ := hrel
    by_cases hlt : k < needs.size
    · have hck := hC.out k hlt
      have hmem : (needs[k].toNat : Int) ∈ letters := HL.out _ (by exact List.getElem_mem (l := needs.data.toList) (by simpa using hlt))
      have HM := Lib.hid hmem; clear hmem
      generalize hcd : needs[k] = cc at *
      have HCC := Lib.hid hcd; clear hcd
      have hdr : needs.data.toList.drop k = cc :: needs.data.toList.drop (k + 1) := by
        rw [List.drop_eq_getElem_cons (by simpa using hlt)]; congr 1
      have HD := Lib.hid hdr; clear hdr
      have hGr : Hid (Gl B wr) := Lib.hid (hG.fr hF.out (fun x hx => by simp only [List.mem_cons, List.not_mem_nil, or_false] at hx; omega))
      have hrl := hW.out.lt
      have hbl := hA.out.lt
      go_wp2_with fail
      go_region_with (first | (go_at_call 26; refine (parts_any _).mono ?_; rintro e w1 ⟨rfl, hP1, hF1⟩; obtain ⟨es, n, i, rd, cap2, sv, hm1, hfd, hent, hrd⟩ := part_read (B := B) _ HM.out _ _ _ hP1; have hlk : ∀ W : World, W.heap[wr.heap.size]? = some (.map es n) → (Instr.lookup 64 (.map (some wr.heap.size)) (.int .u8 (cc.toNat : Int)) false).run Tryz.prog W = .ok (.agg #[.func (.func rd) #[] cap2, sv]) W := fun W h => run_lookup_found _ Tryz.underlying64 Tryz.underlying5 (by simp [MapKept.IsKey]) h hfd; have hlk1 := hlk _ hm1; have hfp := fun W => field_part (.func (.func rd) #[] cap2) sv W; have HR := Lib.hid hrd; have F1' := Lib.hid hF1; have HM1 := Lib.hid hm1; have HLK := Lib.hid hlk; clear hP1 hfd hrd hF1 hm1 hlk) | (go_at_call 30; refine (take_any rb ws' _ (hW.out.fr0 ((Fr.refl [] wr).drew.trans F1'.out))).mono ?_; rintro e w2 (⟨s, rest, hws, rfl, hW2, hF2⟩ | ⟨hws, hp, rfl⟩); rotate_left; (have hp' : e = .panicked [{ v := .iface 26 (.int .i64 380), recovered := false }] := hp; subst hp'; exact ⟨rfl, .inr ⟨by rw [hfill.out, HD.out, hws]; rfl, rfl, hF.out.trans (((Fr.refl [] wr).drew.trans F1'.out).nil)⟩⟩); have hm2 := hF2.heap HM1.out (by simp only [List.mem_singleton]; exact Nat.ne_of_gt hrl); have hlk2 := HLK.out _ hm2; have F2' := Lib.hid hF2; have W2' := Lib.hid hW2; have HWS := Lib.hid hws; clear hF2 hm2 hW2 hws) | (refine (HR.out [rb] _ F2'.out (fun x hx => by simp only [List.mem_singleton] at hx; subst hx; exact hrl) ((hGr.out.fr0 ((Fr.refl [] wr).drew.trans F1'.out)).fr F2'.out (fun x hx => by simp only [List.mem_singleton] at hx; omega)) s b a' (hsz.out s (by rw [HWS.out]; simp)) ((hA.out.fr0 ((Fr.refl [] wr).drew.trans F1'.out)).fr_words F2'.out (hW.out.fr0 ((Fr.refl [] wr).drew.trans F1'.out)))).mono ?_; rintro e w3 (⟨a2, hf1, rfl, hA3, hF3⟩ | ⟨hf1, hp, hF3⟩); rotate_left; (have hp' : e = .panicked [{ v := .iface 26 (.int .i64 380), recovered := false }] := hp; subst hp'; exact ⟨rfl, .inr ⟨by rw [hfill.out, HD.out, HWS.out]; simp only [fillL, hf1], rfl, hF.out.trans (steps3 F1'.out F2'.out hF3)⟩⟩); have A3' := Lib.hid hA3; have W3' := Lib.hid (W2'.out.fr_act hF3 ((hA.out.fr0 ((Fr.refl [] wr).drew.trans F1'.out)).fr_words F2'.out (hW.out.fr0 ((Fr.refl [] wr).drew.trans F1'.out)))); have F3' : Hid (Fr [b, rb] wr w3) := Lib.hid (steps3 F1'.out F2'.out hF3); have E3' := Lib.hid hf1; clear hA3 hF3 hf1))
      all_goals
        go_wp2_with fail
        go_roundw
        case rel =>
          refine ⟨k + 1, a2, rest, by omega, by go_num, Lib.hid ?_, A3', W3', Lib.hid (hF.out.trans F3'.out), Lib.hid (fun i hi => F3'.out.cell (hC.out i hi) (by simp; exact hgn.out)), hgn, Lib.hid (fun t ht => hsz.out t (by rw [HWS.out]; exact List.mem_cons_of_mem _ ht))⟩
          rw [hfill.out, HD.out, HWS.out]; simp only [fillL, E3'.out]
        case measure => simp [RowKit.intOf]; omega
    · go_wp2_with fail
      go_end0
      have hd0 : needs.data.toList.drop k = [] := List.drop_eq_nil_of_le (by simp; omega)
      have hh := hfill.out
      rw [hd0] at hh
      exact .inl ⟨a', ws', hh, rfl, hA.out, hW.out, hF.out⟩
end Go.Proofs.YtnldlakcopbpcaaGreatDoor
