/- Contracts: maps.Keys over a map keyed by uint32, slices.AppendSeq, slices.Collect of its keys. -/
import Derived.RangeFuncBox
import Derived.RangeFuncLeaves
import Derived.Shelf.Abstract
import Derived.WalkKit
import Derived.OwnWalkIn
import Derived.TacticsInMore
import Derived.LoopNIn
import Derived.LoopIn
import Derived.Maps.AppendAt
import Derived.Test.YtpkbckkminmdmaaSpW3
namespace Go.Proofs.Ytpkbckkminmdmaa
open Go.RowKit Go.Shelf
attribute [local go_sem] Oper.semAt_some

def iterLeft (l : List En) (r : Nat) (w : World) : Nat := match w.heap[r]? with
  | some (.mapIter _ _ seen _) => leftN l seen
  | _ => 0
theorem iterLeft_eq {l : List En} {r m since last : Nat} {seen : Array Nat} {w : World} (h : IsIter w r m since seen last) : iterLeft l r w = leftN l seen := by
  unfold iterLeft
  rw [show w.heap[r]? = _ from h]
theorem fr_grown {w w' : World} {r : Nat} (h : Fr (· = r) w w') : w.grownBy w' (some r) := ⟨h.os, h.tape, h.output, h.size, fun k hk hn => h.block k hk (fun e => hn (by rw [e]))⟩
/-- The keys that came: those of the entries that were seen. -/
structure KeysAt (mb clk r : Nat) (l : List En) (seen : Array Nat) (last : Nat) (xs : List Int) (wr : World) : Prop where
  it : IsIter wr r mb clk seen last
  cl : clk ≤ last
  map : IsMap wr mb (ents l) clk
  perm : xs.Perm ((l.filter fun e => seen.contains e.born).map (·.key))
theorem KeysAt.len {mb clk r last : Nat} {l : List En} {seen : Array Nat} {xs : List Int} {wr : World} (h : KeysAt mb clk r l seen last xs wr) {x : En} (hx : x ∈ l) (hn : x.born ∉ seen) : xs.length < l.length := by
  rw [h.perm.length_eq, List.length_map]
  exact filter_lt _ l x hx (by simpa using hn)
theorem seen_push {l : List En} {seen : Array Nat} {x : En} (hx : x ∈ l) (hn : x.born ∉ seen) (hd : (l.map (·.born)).Nodup) : ((l.filter fun e => (seen.push x.born).contains e.born).map (·.key)).Perm ((l.filter fun e => seen.contains e.born).map (·.key) ++ [x.key]) := by
  rw [show [x.key] = [x].map (·.key) from rfl, ← List.map_append]
  refine List.Perm.map _ ?_
  induction l with
  | nil => simp at hx
  | cons a r ih =>
    have hd' := List.nodup_cons.1 (show (a.born :: r.map (·.born)).Nodup from hd)
    rw [List.filter_cons, List.filter_cons]
    by_cases hax : a = x
    · subst hax
      have h1 : (seen.push a.born).contains a.born = true := by simp
      have h2 : seen.contains a.born = false := by simpa using hn
      rw [if_pos h1, if_neg (by rw [h2]; simp)]
      have h3 : r.filter (fun e => (seen.push a.born).contains e.born) = r.filter fun e => seen.contains e.born := by
        refine List.filter_congr fun e he => ?_
        have : e.born ≠ a.born := fun h => hd'.1 (h ▸ List.mem_map_of_mem (f := (·.born)) he)
        rw [Bool.eq_iff_iff]
        simp [this]
      rw [h3]
      exact (List.perm_append_comm (l₁ := [a]))
    · have hxr : x ∈ r := by
        rcases List.mem_cons.1 hx with h | h
        · exact absurd h.symm hax
        · exact h
      have hne : a.born ≠ x.born := fun h => hd'.1 (h ▸ List.mem_map_of_mem (f := (·.born)) hxr)
      have h1 : (seen.push x.born).contains a.born = seen.contains a.born := by
        rw [Bool.eq_iff_iff]
        simp [hne]
      rw [h1]
      split
      · exact (ih hxr hd'.2).cons a
      · exact ih hxr hd'.2
set_option maxRecDepth 100000 in
set_option maxHeartbeats 1000000 in
theorem keys1_in (F : Fence) (n : Nat) (hf : F.fn 145) (hro : F.round = none) (hn : 1 ≤ n) (l0 Bm mb clk : Nat) (l : List En) (J Jx : List Int → World → Prop)
    (hY : ∀ pre x W, J pre W → pre.length < l.length → YieldAt F (n - 1) Try.prog l0 #[.int .u32 x] W fun e W' =>
      (e = .returned (.bool true) ∧ J (pre ++ [x]) W' ∧ KeepsWalks W W') ∨ (e = .returned (.bool false) ∧ Jx (pre ++ [x]) W'))
    (W : World) (hJ : AbidesFrom W.heap.size J) (hm : W.cell? ⟨Bm, 0, none⟩ = some (.map (some mb))) (hmap : IsMap W mb (ents l) clk) (hlt : ∀ e ∈ l, e.born < clk) (hnd : (l.map (·.born)).Nodup) (h0 : J [] W) :
    CallsIn F n Try.prog 145 #[.func (.yield l0) #[] #[], .pointer (some ⟨Bm, 0, none⟩)] W fun e W' => (∃ v, e = .returned v) ∧
      ((∃ xs : List Int, xs.Perm (l.map (·.key)) ∧ J xs W') ∨ (∃ pre : List Int, True ∧ Jx pre W')) := by
  have hrange : Sem.run Try.prog (Instr.range 161 (.map (some mb))) W = .ok (.pointer (some ⟨W.heap.size, 0, none⟩)) (W.alloc (.mapIter (some mb) clk #[] clk)) := run_range_ents Try.underlying161 _ W hmap
  refine callsIn_of_wp Try.func145 rfl hf ?_ hro
  simp only [Try.ntmps145, List.size_toArray, List.length_cons, List.length_nil, Nat.reduceAdd, Nat.reduceSub, Array.replicate_succ, Array.replicate_zero, List.push_toArray, List.append_toArray, List.nil_append, List.cons_append]
  gi_wp2
  gi_loopw [3] (fun _ wr => ∃ (seen : Array Nat) (last : Nat) (xs : List Int), KeysAt mb clk W.heap.size l seen last xs wr ∧ J xs wr)
    (fun _ wr => iterLeft l W.heap.size wr)
  case atStart =>
    exact ⟨#[], clk, [], ⟨heap_alloc_new _ _, Nat.le_refl _, (Below.heap_alloc W _ mb hmap.lt).trans hmap, by simp⟩, hJ [] W _ none h0 (World.grownBy_alloc W _ none) (fun r e => by cases e)⟩
  case round =>
    obtain ⟨seen, last, xs, hK, hJs⟩ := hrel
    clear hrange
    rcases next_cases (P := Try.prog) wr 0 W.heap.size mb clk last seen l clk hK.it hK.map hlt hK.cl hnd with ⟨hall, hrun⟩ | ⟨x, hx, hns, w1, hrun, hent, hit1, hf1, hz1⟩
    · have hp : xs.Perm (l.map (·.key)) := by
        have := hK.perm
        rwa [List.filter_eq_self.2 (fun e he => by simpa using hall e he)] at this
      have HP := Lib.hid hp
      clear hall hp
      gi_wp2
      go_end0
      exact ⟨⟨_, rfl⟩, .inl ⟨xs, HP.out, hJs⟩⟩
    · have hr : ∀ r, some W.heap.size = some r → W.heap.size ≤ r ∧ ∃ o : Obj, wr.heap[r]? = some o ∧ o.isWalk = true := fun r e => by cases e; exact ⟨Nat.le_refl _, _, hK.it, rfl⟩
      have hJ2 : J xs w1 := hJ xs wr w1 (some W.heap.size) hJs (fr_grown hf1) hr
      obtain ⟨fn, tmps, assign, body, hy, hR⟩ := hY xs x.key w1 hJ2 (hK.len hx hns)
      have hne : mb ≠ W.heap.size := by have := hmap.lt; omega
      have hm1 : IsMap w1 mb (ents l) clk := hK.map.fr hf1 hne
      have hperm := (hK.perm.append_right [x.key]).trans (seen_push hx hns hnd).symm
      have hless := leftN_less hx hns
      have hleft := iterLeft_eq (l := l) hK.it
      have HPERM := Lib.hid hperm
      have HLESS := Lib.hid hless
      have HLEFT := Lib.hid hleft
      have HM1 := Lib.hid hm1
      clear hperm hless hns hleft hm1 hr hK
      gi_wp2
      refine hR.mono ?_
      rintro e W3 (⟨rfl, hJ3, hk3⟩ | ⟨rfl, hJx3⟩)
      · have hit3 : IsIter W3 W.heap.size mb clk (seen.push x.born) clk := hk3.same _ _ hit1 rfl
        have hm3 : IsMap W3 mb (ents l) clk := hk3.same _ _ HM1.out rfl
        gi_wp2
        go_roundw
        case rel => exact ⟨seen.push x.born, clk, xs ++ [x.key], ⟨hit3, Nat.le_refl _, hm3, HPERM.out⟩, hJ3⟩
        case measure => rw [iterLeft_eq hit3, HLEFT.out]; exact HLESS.out
      · gi_wp2
        refine bodyPost_ret (results_none rfl _ _ _) rfl ?_
        exact ⟨⟨_, rfl⟩, .inr ⟨xs ++ [x.key], trivial, hJx3⟩⟩
end Go.Proofs.Ytpkbckkminmdmaa
