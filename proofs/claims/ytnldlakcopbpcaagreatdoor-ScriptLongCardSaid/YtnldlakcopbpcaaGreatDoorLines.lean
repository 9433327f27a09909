/- Contract: lines$1: the lines of a text, one by one. -/
import Derived.RangeFuncNested
import Derived.RangeFuncBound
import Derived.RangeFuncCalls
import Derived.RangeFuncLeaves
import Derived.Shelf.Abstract
import Derived.Shelf.RegionOpen
import Derived.WalkKit
import Derived.OwnWalkIn
import Derived.TacticsInMore
import Derived.LoopNIn
import Derived.LoopIn
import Derived.Test.YtnldlakcopbpcaaGreatDoorSmall
namespace Go.Proofs.YtnldlakcopbpcaaGreatDoor
open Go.RowKit Go.Lib Go.Shelf
attribute [local go_sem] Oper.semAt_some

def clip (s : ByteArray) : ByteArray := if s.size ≤ 1000000 then s else ⟨#[]⟩
def encL (x : Nat × ByteArray) : Array Value := #[.int .i64 (x.1 : Int), .string (clip x.2)]
def nlS (text : ByteArray) : List ByteArray := Lib.splitB ⟨#[10]⟩ 0 (Lib.countB text ⟨#[10]⟩) text
def lns : Nat → List ByteArray → List (Nat × ByteArray)
  | _, [] => []
  | i, p :: ps => if p = ⟨#[]⟩ then lns (i + 1) ps else (i + 1, p) :: lns (i + 1) ps

/-- Rows of strings are as they were. -/
def KeepStr (W W' : World) : Prop := ∀ (k : Nat) (cs : Array Value), W.heap[k]? = some (Obj.cells cs 9) → W'.heap[k]? = some (Obj.cells cs 9)

theorem split_nl {B : Nat} (s : ByteArray) (w : World) (hG : Gl B w) (hs : s.size ≤ 1000000) :
    Calls Tryz.prog 28 #[.string s, .string ⟨#[10]⟩] w fun e w' => e = .returned (.slice (some ⟨w.heap.size, 0, none⟩) (nlS s).length (nlS s).length) ∧ w.alloc (.cells ((nlS s).map Value.string).toArray 9) = w' := by
  obtain ⟨m, hm⟩ := hG.maxLen
  refine (Tryz.strings_Split s ⟨#[10]⟩ m w (by omega) hm (by decide)).mono fun e w' ⟨h1, h2⟩ => ⟨?_, h2.symm⟩
  rw [h1, nlS, Lib.splitB_all _ (by decide) _ _ _ rfl]

theorem nlS_size {line s : ByteArray} (h : s ∈ nlS line) : s.size ≤ line.size := by
  have key : ∀ (k : Nat) (l : ByteArray), ∀ s ∈ Lib.splitB ⟨#[10]⟩ 0 k l, s.size ≤ l.size := by
    intro k
    induction k with
    | zero => intro l s hs; rw [Lib.splitB_zero] at hs; simp at hs; subst hs; exact Nat.le_refl _
    | succ k ih =>
      intro l s hs
      rcases Lib.indexB_cases l ⟨#[10]⟩ with h0 | ⟨i, hi, _⟩
      · rw [Lib.splitB_miss _ _ _ _ h0] at hs; simp at hs; subst hs; exact Nat.le_refl _
      · skip
        rw [Lib.splitB_hit _ _ _ _ i hi] at hs
        rcases List.mem_cons.1 hs with rfl | hs
        · simp; omega
        · have := ih _ _ hs
          simp at this; omega
  exact key _ _ _ h

set_option maxRecDepth 100000 in
set_option maxHeartbeats 2000000 in
theorem lines1_in {B : Nat} (n : Nat) (hn : 2 ≤ n) (l Bn : Nat) (text : ByteArray) (J Jx : List (Nat × ByteArray) → World → Prop) (W : World) (hG : Gl B W) (hs : text.size ≤ 1000000) (hJ : AbidesFrom W.heap.size J)
    (hY : ∀ pre x W1, J pre W1 → pre.length < (lns 0 (nlS text)).length → YieldAt Fence.wide (n - 1) Tryz.prog l (encL x) W1 fun e W' =>
      (e = .returned (.bool true) ∧ J (pre ++ [x]) W' ∧ KeepStr W1 W') ∨ (e = .returned (.bool false) ∧ Jx (pre ++ [x]) W'))
    (hBn : W.cell? ⟨Bn, 0, none⟩ = some (.string text)) (h0 : J [] W) :
    CallsIn Fence.wide n Tryz.prog 34 #[.func (.yield l) #[] #[], .pointer (some ⟨Bn, 0, none⟩)] W fun e W' => (∃ v, e = .returned v) ∧
      ((∃ ys, ys = lns 0 (nlS text) ∧ J ys W') ∨ (∃ pre, pre <+: lns 0 (nlS text) ∧ Jx pre W')) := by
  refine callsIn_of_wp Tryz.func34 rfl trivial ?_ rfl
  simp only [Tryz.ntmps34, List.size_toArray, List.length_cons, List.length_nil, Nat.reduceAdd, Nat.reduceSub, Array.replicate_succ, Array.replicate_zero, List.push_toArray, List.append_toArray, List.nil_append, List.cons_append]
  gi_wp2_with (refine ⟨trivial, fun _ => by omega, ?_⟩; refine (callsIn_wide.2 (split_nl text W hG hs)).mono ?_; rintro e w' ⟨rfl, hw'⟩)
  have hg : w'.heap[W.heap.size]? = some (Obj.cells ((nlS text).map Value.string).toArray 9) := by rw [← hw']; exact alloc_heap_new _ _
  have hJ1 : J [] w' := by rw [← hw']; exact hJ _ _ _ none h0 (World.grownBy_alloc W _ none) (fun r e => by cases e)
  have HG := Lib.hid hg; have HJ1 := Lib.hid hJ1; have HY := Lib.hid hY; clear hg hJ1 hY hw' hJ
  obtain ⟨ps, hps⟩ : ∃ ps, nlS text = ps := ⟨_, rfl⟩
  rw [hps] at HG HY ⊢
  have hlen : ps.length ≤ 1000001 := by
    have h1 := Lib.countB_le ⟨#[10]⟩ (by decide) text.size text (Nat.le_refl _)
    have h2 : (nlS text).length = Lib.countB text ⟨#[10]⟩ + 1 := Lib.splitB_all _ (by decide) _ _ _ rfl
    rw [hps] at h2
    omega
  have HPS := Lib.hid hps; clear hps
  gi_wp2
  gi_loopw [3, 4, 8] (fun _ _ i wr => ∃ (k : Nat) (pre : List (Nat × ByteArray)), k ≤ ps.length ∧ i = .int .i64 (k : Int) ∧ Hid (pre ++ lns k (ps.drop k) = lns 0 ps) ∧ Hid (J pre wr) ∧ Hid (wr.heap[W.heap.size]? = some (Obj.cells (ps.map Value.string).toArray 9)))
    (fun _ _ i _ => ps.length - (RowKit.intOf i).toNat)
  case atStart => exact ⟨0, [], by omega, rfl, Lib.hid rfl, HJ1, HG⟩
  case round =>
    obtain ⟨k, pre, hk, rfl, hp, hJ, hg⟩ := hrel
    by_cases hlt : k < ps.length
    · have hc : wr.cell? ⟨W.heap.size, k, none⟩ = some (.string ps[k]) := by rw [cell_of_row _ _ _ _ _ _ hg.out]; simp [hlt]
      have hd : lns k (ps.drop k) = if ps[k] = ⟨#[]⟩ then lns (k + 1) (ps.drop (k + 1)) else (k + 1, ps[k]) :: lns (k + 1) (ps.drop (k + 1)) := by
        rw [List.drop_eq_getElem_cons hlt]; rfl
      have HD := Lib.hid hd; clear hd
      by_cases he : ps[k] = ⟨#[]⟩
      · rw [he] at hc
        have hnx : Hid (pre ++ lns (k + 1) (ps.drop (k + 1)) = lns 0 ps) := Lib.hid (by have h1 := hp.out; rw [HD.out, if_pos he] at h1; exact h1)
        clear he
        gi_wp2
        refine ⟨fun _ h => (by cases h), ?_⟩
        gi_wp2
        go_roundw
        case rel => exact ⟨k + 1, pre, by omega, by go_num, hnx, hJ, hg⟩
        case measure => simp [RowKit.intOf]; omega
      · have hnx : Hid ((pre ++ [(k + 1, ps[k])]) ++ lns (k + 1) (ps.drop (k + 1)) = lns 0 ps) := Lib.hid (by have h1 := hp.out; rw [HD.out, if_neg he] at h1; rw [List.append_assoc]; exact h1)
        have hsz : ps[k].size ≤ 1000000 := Nat.le_trans (nlS_size (by rw [HPS.out]; exact List.getElem_mem hlt)) hs
        have hlen2 : pre.length < (lns 0 (nlS text)).length := by rw [HPS.out, ← hnx.out]; simp
        obtain ⟨fn, tmps, assign, body, hy, hR⟩ := HY.out pre (k + 1, ps[k]) wr hJ.out (by first | exact hlen2 | (rw [← HPS.out]; exact hlen2))
        have hy1 : (Instr.yield l #[.int .i64 ((k : Int) + 1), .string ps[k]]).run Tryz.prog wr = .ok (.round l fn tmps assign body) wr := by
          have h1 := hy
          simp only [encL, clip, if_pos hsz] at h1
          simpa using h1
        have hpe : (ps[k].toList == ([] : List UInt8)) = false := by
          have h := toList_ne he
          rw [show (⟨#[]⟩ : ByteArray).toList = [] from by rw [Lib.toList_data]] at h
          exact h
        have HSZ := Lib.hid hsz
        generalize ps[k] = p at *
        clear hy he hlen2 hsz
        gi_wp2
        refine ⟨fun _ => by omega, hR.mono ?_⟩
        rintro e W3 (⟨rfl, hJ3, hk3⟩ | ⟨rfl, hJx3⟩)
        · have HJ3 := Lib.hid hJ3; have HK3 := Lib.hid hk3; clear hJ3 hk3 hR
          gi_wp2
          go_roundw
          case rel => exact ⟨k + 1, pre ++ [(k + 1, p)], by omega, by go_num, hnx, HJ3, Lib.hid (HK3.out _ _ hg.out)⟩
          case measure => simp [RowKit.intOf]; omega
        · have HJ3 := Lib.hid hJx3; clear hJx3 hR
          gi_wp2
          refine bodyPost_ret (results_none rfl _ _ _) rfl ?_
          exact ⟨⟨_, rfl⟩, .inr ⟨pre ++ [(k + 1, p)], ⟨_, by rw [HPS.out]; exact hnx.out⟩, HJ3.out⟩⟩
    · gi_wp2
      go_end0
      have hd : ps.drop k = [] := List.drop_eq_nil_of_le (by omega)
      have hh := hp.out
      rw [hd] at hh
      exact ⟨⟨_, rfl⟩, .inl ⟨pre, by rw [HPS.out, ← hh]; simp [lns], hJ.out⟩⟩

theorem keepStr_t {A B C : World} (h : KeepStr A B) (k : KeepStr B C) : KeepStr A C := fun i cs hi => k i cs (h i cs hi)
theorem keepStr_b (W : World) (l : Nat) (o o' : Obj) (h : W.heap[l]? = some o) (hc : o.isCells = false) : KeepStr W (W.putObj l o') := by
  intro i cs hi
  by_cases e : i = l
  · subst e; rw [h] at hi; cases hi; cases hc
  · simp only [World.putObj, Array.getElem?_setIfInBounds]
    rw [if_neg (fun h => e h.symm)]; exact hi
theorem keepStr_fr {S : List Nat} {W W' : World} (f : Fr S W W') (hS : ∀ x ∈ S, ∀ cs, W.heap[x]? ≠ some (Obj.cells cs 9)) : KeepStr W W' := fun i cs hi => f.heap hi (fun hm => hS i hm cs hi)

set_option maxRecDepth 100000 in
theorem lines_any (text : ByteArray) (w : World) :
    Calls Tryz.prog 22 #[.string text] w fun e w' => e = .returned (.func (.func 34) #[] #[.pointer (some ⟨w.heap.size, 0, none⟩)]) ∧ w.alloc (.cells #[.string text] 9) = w' := by
  have hmf : ∀ (fn : Fn) (first cap : Array Value) (w : World), (Instr.makeFunc fn first cap).run Tryz.prog w = .ok (.func fn first cap) w := fun _ _ _ _ => rfl
  go_enter Tryz.func22, Tryz.ntmps22
  go_wp2_with fail
  go_ret
  exact ⟨rfl, rfl⟩

/-- The iterator's contract, as the caller's law asks it. -/
theorem lines_stops {B : Nat} (n : Nat) (hn : 2 ≤ n) (Bn : Nat) (text : ByteArray) (w : World) (hG : Gl B w) (hs : text.size ≤ 1000000) (hBn : w.cell? ⟨Bn, 0, none⟩ = some (.string text)) :
    SeqStopsK Fence.wide n Tryz.prog 34 #[.pointer (some ⟨Bn, 0, none⟩)] encL KeepStr (fun xs => xs = lns 0 (nlS text)) (fun pre => pre <+: lns 0 (nlS text)) (lns 0 (nlS text)).length w :=
  fun l J Jx W hW hJ _ hY h0 =>
    lines1_in n hn l Bn text J Jx W (hG.fr0 (Fr.of_below hW)) hs hJ hY ((Fr.of_below hW).cell0 hBn) h0
end Go.Proofs.YtnldlakcopbpcaaGreatDoor
