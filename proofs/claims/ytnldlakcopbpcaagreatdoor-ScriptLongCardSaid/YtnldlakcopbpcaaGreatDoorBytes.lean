/- Contract: the reading of bytes. -/
import Derived.Test.YtnldlakcopbpcaaGreatDoorPath
import Derived.Deep.AppendLies
import Derived.Deep.RegionLaw
import Derived.Deep.RegionWith
import Derived.RegionDies
import Derived.BigQuiet
import Derived.LoopTactic
import Derived.IntWalk
namespace Go.Proofs.YtnldlakcopbpcaaGreatDoor
open Go.RowKit Go.Lib

def u8v (n : Nat) : Value := .int .u8 (n : Int)
def hexB (x y : Nat) : Nat := 16 * x + y
def hexL : List UInt8 → Option (List Nat)
  | [] => some []
  | [_] => none
  | a :: b :: r =>
    match halfS a with
    | none => none
    | some x => match halfS b with
      | none => none
      | some y => (hexL r).map (hexB x y :: ·)

def bytesS (s : ByteArray) : Option (List Nat) :=
  if s.data.toList = [45] then some [] else if 0 < s.size ∧ s.size % 2 = 0 ∧ s.size ≤ 896 then hexL s.data.toList else none

def BytesPost (s : ByteArray) (w : World) (e : Ending) (w' : World) : Prop :=
  (∃ l v, bytesS s = some l ∧ e = .returned v ∧ w'.ownsRow w.heap.size 5 1 v l.length (l.map u8v) ∧ Fr [] w w') ∨
  (bytesS s = none ∧ Panic380 e ∧ Fr [] w w')

def BRel (s : ByteArray) (w : World) (v i : Value) (wr : World) : Prop :=
  ∃ (j k : Nat) (done : List Nat), Hid (j = 2 * k) ∧ j ≤ s.size ∧ i = .int .i64 (j : Int) ∧ Hid (done.length = k) ∧ Hid (hexL s.data.toList = (hexL (s.data.toList.drop j)).map (done ++ ·)) ∧
    Hid (wr.ownsRow w.heap.size 5 1 v k (done.map u8v)) ∧ Hid (Fr [] w wr)

theorem Tryz.info5 : (Tryz.prog.info? 5).map (fun i => (i.zero, i.size, i.bytes)) = some (some (.int .u8 0), 1, 1) := by kernel_rfl

theorem own_block_ge {w : World} {base : Nat} {e : TypeId} {size : Nat} {v : Value} {n : Nat} {xs : List Value} (h : w.ownsRow base e size v n xs) {q : Nat} (hq : v.ownBlock = some q) : base ≤ q := by
  rcases h.2 with ⟨rfl, _⟩ | ⟨g, cap, cur, rfl, hg, _⟩
  · simp [Value.ownBlock] at hq
  · simp [Value.ownBlock] at hq; omega

theorem halfS_lt {c : UInt8} {n : Nat} (h : halfS c = some n) : n < 16 := by
  unfold halfS at h
  split at h
  · have := halfK_lt c
    have : (halfK c).toNat = n := by simpa using h
    omega
  · cases h
theorem hex_bits (x y : Nat) (hx : x < 16) (hy : y < 16) : bits BinOp.or IntKind.u8 (IntKind.u8.wrap ((x : Int) * 16)) (y : Int) = ((hexB x y : Nat) : Int) := by
  have h : ∀ (x y : Fin 16), bits BinOp.or IntKind.u8 (IntKind.u8.wrap ((x.val : Int) * 16)) (y.val : Int) = ((hexB x.val y.val : Nat) : Int) := by decide +kernel
  exact h ⟨x, hx⟩ ⟨y, hy⟩

set_option maxRecDepth 100000 in
set_option maxHeartbeats 2000000 in
theorem bytes_loop (s : ByteArray) (w : World) (hs0 : 0 < s.size) (hs2 : s.size % 2 = 0) (hs9 : s.size ≤ 896) (hd : ¬ s.data.toList = [45]) :
    Calls Tryz.prog 45 #[.string s] w (BytesPost s w) := by
  have e0 : (s.toList == [45]) = false := by rw [Lib.toList_data]; simpa using hd
  have e1 : decide ((0 : Int) < (s.size : Int)) = true := by simp; omega
  have e2 : (((s.size : Int) % 2) == 0) = true := by simp; omega
  have e3 : decide ((s.size : Int) ≤ 896) = true := by simp; omega
  have HD := Lib.hid hd; have H2 := Lib.hid hs2; clear hd hs2
  go_enter Tryz.func45, Tryz.ntmps45
  go_wp2_with fail
  refine (must_ok 380 _).mono ?_
  rintro e w1 ⟨rfl, rfl⟩
  go_wp2_with fail
  go_loopw [2, 3] (fun v i wr => BRel s w v i wr) (fun _ i _ => s.size - (RowKit.intOf i).toNat)
  case atStart => exact ⟨0, 0, [], Lib.hid rfl, by omega, rfl, Lib.hid rfl, Lib.hid (by simp), Lib.hid ⟨rfl, .inl ⟨rfl, rfl⟩⟩, Lib.hid (Fr.refl _ _)⟩
  case round =>
    obtain ⟨j, k, done, hj, hjs, rfl, hdl, hx, hown, hfr⟩ := hrel
    by_cases hlt : j < s.size
    · have hlt1 : j + 1 < s.size := by have := hj.out; have := H2.out; omega
      have hx2 : s.data.toList.drop j = s[j] :: s[j + 1] :: s.data.toList.drop (j + 2) := by
        rw [List.drop_eq_getElem_cons (by simpa using hlt), List.drop_eq_getElem_cons (by simpa using hlt1)]; rfl
      have HX2 := Lib.hid hx2; clear hx2
      cases hA : halfS s[j] with
      | none =>
        have HA := Lib.hid hA; clear hA
        go_wp2_with fail
        have q0 : (0 : Int) ≤ (j : Int) + 1 := by omega
        have q1 : (j : Int) + 1 < (s.size : Int) := by omega
        have q2 : IntKind.i64.wrap ((j : Int) + 1) = (j : Int) + 1 := IntWalk.i64_in _ (by omega)
        have q3 : ((j : Int) + 1).toNat = j + 1 := by omega
        go_region_dies
        all_goals
          refine (half_no _ _ HA.out).mono ?_
          rintro e w1 ⟨rfl, rfl⟩
          have hh := hx.out
          rw [HX2.out] at hh
          simp only [hexL, HA.out, Option.map_none] at hh
          exact ⟨rfl, .inr ⟨by simp [bytesS, HD.out, hs0, H2.out, hs9, hh], rfl, hfr.out.drew⟩⟩
      | some x =>
        have HA := Lib.hid hA; clear hA
        cases hB : halfS s[j + 1] with
        | none =>
          have HB := Lib.hid hB; clear hB
          go_wp2_with fail
          have q0 : (0 : Int) ≤ (j : Int) + 1 := by omega
          have q1 : (j : Int) + 1 < (s.size : Int) := by omega
          have q2 : IntKind.i64.wrap ((j : Int) + 1) = (j : Int) + 1 := IntWalk.i64_in _ (by omega)
          have q3 : ((j : Int) + 1).toNat = j + 1 := by omega
          go_region_dies
          all_goals
            refine (half_ok _ _ _ HA.out).mono ?_
            rintro e w1 ⟨rfl, rfl⟩
            rename_i K9 hK9
            refine hK9 _ _ ?_
            clear hK9 K9
            refine wpAny_take (i := 5) (v := ?v) rfl (by kernel_rfl) (by kernel_rfl) (by kernel_rfl) (fun _ _ _ h => h) (Or.inl ⟨by rfl, ?hy⟩) ?rest
            case hy => (intro w; go_simp; try with_reducible rfl)
            case rest =>
              first
              | (refine wpAny_ready (rs := [10]) (by decide +kernel) (by simp) ?_)
              | (refine wpAny_ready (rs := [9]) (by decide +kernel) (by simp) ?_; refine AllReady.cons rfl (fun K hK => ?_) AllReady.nil; go_simp; refine hK _ _ ?_; clear hK K; refine wpAny_ready (rs := [10]) (by decide +kernel) (by simp) ?_)
              refine AllReady.cons rfl (fun K hK => ?_) AllReady.nil
              go_simp
              refine (half_no _ _ HB.out).mono ?_
              rintro e w2 ⟨rfl, rfl⟩
              have hh := hx.out
              rw [HX2.out] at hh
              simp only [hexL, HA.out, HB.out, Option.map_none] at hh
              exact ⟨rfl, .inr ⟨by simp [bytesS, HD.out, hs0, H2.out, hs9, hh], rfl, hfr.out.drew⟩⟩
        | some y =>
          have HB := Lib.hid hB; clear hB
          obtain ⟨i0, hi, hz0, hz1, hz2⟩ := info_parts Tryz.info5
          go_wp2_with fail
          have q0 : (0 : Int) ≤ (j : Int) + 1 := by omega
          have q1 : (j : Int) + 1 < (s.size : Int) := by omega
          have q2 : IntKind.i64.wrap ((j : Int) + 1) = (j : Int) + 1 := IntWalk.i64_in _ (by omega)
          have q3 : ((j : Int) + 1).toNat = j + 1 := by omega
          have q4 := hex_bits x y (halfS_lt HA.out) (halfS_lt HB.out)
          have hlen : done.length + 1 ≤ 1000 := by have := hdl.out; have := hj.out; omega
          have hkk : k + 1 ≤ 1000 := by have := hj.out; omega
          have hw0 : w.heap.size ≤ wr.heap.size := hfr.out.size
          go_region_law (first | (refine step_append_lies _ rfl (.tmp 27) (.tmp 39) 23 rfl w.heap.size 5 i0 (.int .u8 0) 1 1 Tryz.underlying23 hi hz0 hz1 hz2 rfl (by decide) _ _ _ rfl ((hown.out.alloc _).drew) ⟨wr.heap.size, 0, none⟩ 1 1 [.int .u8 (hexB x y : Nat)] rfl rfl (World.news_of_block (alloc_heap_new wr _)) (by simp [Value.oneCell']) (by decide) (by unfold maxLen; omega) (by omega) (by simp; omega) _ rfl ?_; intro g' cap' w5 hown5 hgrow5 hat5 hlt5) | (go_simp; go_at_call 62; refine (half_ok _ _ _ (by first | exact HA.out | exact HB.out)).mono ?_; rintro e w1 ⟨rfl, rfl⟩))
          all_goals
            have HO5 := Lib.hid hown5
            have F5 : Hid (Fr [] w w5) := Lib.hid ((((hfr.out.alloc _).drew)).grown hgrow5 (fun q hq => .inr (own_block_ge hown.out hq)))
            clear hown5 hgrow5 hat5 hlt5
            go_wp2_with fail
            go_roundw
            case rel =>
              refine ⟨j + 2, k + 1, done ++ [hexB x y], Lib.hid (by rw [hj.out]; omega), by omega, by go_num, Lib.hid (by simp [hdl.out]), Lib.hid ?_, Lib.hid ?_, Lib.hid ?_⟩
              · have hh := hx.out
                rw [HX2.out] at hh
                simp only [hexL, HA.out, HB.out, Option.map_map] at hh
                rw [hh]; congr 1; funext l; simp
              · have := HO5.out
                simpa [u8v] using this
              · exact F5.out
            case measure => simp [RowKit.intOf]; omega
    · go_wp2_with fail
      go_ret
      have hd0 : s.data.toList.drop j = [] := List.drop_eq_nil_of_le (by simp; omega)
      have hh := hx.out
      rw [hd0] at hh
      exact .inl ⟨done, u2, by simp [bytesS, HD.out, hs0, H2.out, hs9, hh, hexL], rfl, by rw [hdl.out]; exact hown.out, hfr.out⟩

set_option maxRecDepth 100000 in
set_option maxHeartbeats 1000000 in
theorem bytes_any (s : ByteArray) (w : World) (hs : s.size ≤ 1000000) : Calls Tryz.prog 45 #[.string s] w (BytesPost s w) := by
  by_cases hd : s.data.toList = [45]
  · have e0 : (s.toList == [45]) = true := by rw [Lib.toList_data]; simpa using hd
    have HD := Lib.hid hd; clear hd
    go_enter Tryz.func45, Tryz.ntmps45
    go_wp2_with fail
    go_ret
    exact .inl ⟨[], _, by simp [bytesS, HD.out], rfl, ⟨rfl, .inl ⟨rfl, rfl⟩⟩, Fr.refl _ _⟩
  · by_cases h0 : 0 < s.size
    · by_cases h2 : s.size % 2 = 0
      · by_cases h9 : s.size ≤ 896
        · exact bytes_loop s w h0 h2 h9 hd
        · have e0 : (s.toList == [45]) = false := by rw [Lib.toList_data]; simpa using hd
          have e1 : decide ((0 : Int) < (s.size : Int)) = true := by simp; omega
          have e2 : (((s.size : Int) % 2) == 0) = true := by simp; omega
          have e3 : decide ((s.size : Int) ≤ 896) = false := by simp; omega
          have HD := Lib.hid hd; have H2 := Lib.hid h2; have H9 := Lib.hid h9; clear hd h2 h9
          go_enter Tryz.func45, Tryz.ntmps45
          go_wp2_with fail
          refine (must_no 380 _).mono ?_
          rintro e w1 ⟨rfl, rfl⟩
          exact ⟨rfl, .inr ⟨by simp [bytesS, HD.out, H9.out], rfl, Fr.refl _ _⟩⟩
      · have e0 : (s.toList == [45]) = false := by rw [Lib.toList_data]; simpa using hd
        have e1 : decide ((0 : Int) < (s.size : Int)) = true := by simp; omega
        have e2 : (((s.size : Int) % 2) == 0) = false := by simp; omega
        have HD := Lib.hid hd; have H2 := Lib.hid h2; clear hd h2
        go_enter Tryz.func45, Tryz.ntmps45
        go_wp2_with fail
        refine (must_no 380 _).mono ?_
        rintro e w1 ⟨rfl, rfl⟩
        exact ⟨rfl, .inr ⟨by simp [bytesS, HD.out, H2.out], rfl, Fr.refl _ _⟩⟩
    · have e0 : (s.toList == [45]) = false := by rw [Lib.toList_data]; simpa using hd
      have e1 : decide ((0 : Int) < (s.size : Int)) = false := decide_eq_false (by omega)
      have HD := Lib.hid hd; have H0 := Lib.hid h0; clear hd h0
      go_enter Tryz.func45, Tryz.ntmps45
      go_wp2_with fail
      refine (must_no 380 _).mono ?_
      rintro e w1 ⟨rfl, rfl⟩
      exact ⟨rfl, .inr ⟨by simp [bytesS, HD.out, H0.out], rfl, Fr.refl _ _⟩⟩
end Go.Proofs.YtnldlakcopbpcaaGreatDoor
