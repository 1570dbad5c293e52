/- Contract of package spans: Last. -/
import Derived.Test.YtpkbckkminmdmaaSpW2
import Derived.Test.YtpkbckkminmdmaaSpPure3
namespace Go.Proofs.Ytpkbckkminmdmaa
open Go.RowKit
attribute [local go_sem] alloc_drewN setCell_drewN isMap_alloc isMap_drew isMap_drewN isMap_setCell cell_setMap frozen_setMap setMap_drew setMap_drewN size_setMap

theorem filter_lt {α : Type} (f : α → Bool) : ∀ (l : List α) (x : α), x ∈ l → f x = false → (l.filter f).length < l.length
  | [], x, h, _ => by cases h
  | a :: l, x, h, hx => by
    rcases List.mem_cons.1 h with rfl | h
    · rw [List.filter_cons_of_neg (by simp [hx])]
      have := List.length_filter_le f l
      simp
      omega
    · have := filter_lt f l x h hx
      by_cases ha : f a = true
      · rw [List.filter_cons_of_pos ha, List.length_cons, List.length_cons]
        omega
      · rw [List.filter_cons_of_neg ha]
        simp
        omega
def leftN (l : List En) (seen : Array Nat) : Nat := (l.filter fun e => !seen.contains e.born).length
theorem leftN_less {l : List En} {seen : Array Nat} {x : En} (hx : x ∈ l) (hn : x.born ∉ seen) : leftN l (seen.push x.born) < leftN l seen := by
  unfold leftN
  have h1 : l.filter (fun e => !(seen.push x.born).contains e.born) = (l.filter fun e => !seen.contains e.born).filter fun e => e.born != x.born := by
    rw [List.filter_filter]
    refine List.filter_congr fun e _ => ?_
    rw [Bool.eq_iff_iff]
    simp
    exact And.comm
  rw [h1]
  refine filter_lt _ _ x (List.mem_filter.2 ⟨hx, by simpa using hn⟩) (by simp)
/-- A walk over a set's numbers: which were seen, and the furthest one. -/
structure LastAt (w wr : World) (mb clk : Nat) (s : Sp.St) (l : List En) (seen : Array Nat) (last m : Nat) : Prop where
  it : IsIter wr w.heap.size mb clk seen last
  cl : clk ≤ last
  fr : Fr (fun _ => False) w wr
  mem : m = 0 ∨ m ∈ s.ds
  far : ∀ e ∈ l, e.born ∈ seen → Sp.dist s.base e.key ≤ m
theorem max_key {b : Int} {m d : Nat} (hm : m ≤ 4096) (hd : d ≤ 4096) : (if Rs.less32 (Sp.key b m) (Sp.key b d) then Sp.key b d else Sp.key b m) = Sp.key b (max m d) := by
  have : Rs.less32 (Sp.key b m) (Sp.key b d) = decide (m < d) := by
    unfold Rs.less32 Sp.key
    rw [Bool.eq_iff_iff]
    simp only [Bool.and_eq_true, decide_eq_true_iff]
    omega
  rw [this]
  by_cases h : m < d
  · rw [if_pos (decide_eq_true h), Nat.max_eq_right (by omega)]
  · rw [if_neg (by simpa using h), Nat.max_eq_left (by omega)]
set_option maxRecDepth 100000 in
theorem slast_any {w : World} {g mb : Nat} {s : Sp.St} (h : SpAt w g mb s) : Calls Try.prog 52 #[.pointer (some ⟨g, 0, none⟩)] w fun e w' => e = .returned (.int .u32 (Sp.last s)) ∧ Fr (fun _ => False) w w' := by
  have hb := sbase_any h
  have HB := Lib.hid hb
  obtain ⟨l, clk, hi⟩ := h
  have c := hi.blk.cell
  have lt := hi.blk.lt
  have hrange : Sem.run Try.prog (Instr.range 161 (.map (some mb))) w = .ok (.pointer (some ⟨w.heap.size, 0, none⟩)) (w.alloc (.mapIter (some mb) clk #[] clk)) := run_range_ents Try.underlying161 _ w hi.map
  clear hb
  go_enter Try.func52, Try.ntmps52
  go_wp2_with (go_at_call 55; refine HB.out.mono ?_; rintro e w1 ⟨rfl, rfl⟩)
  go_loopg [3] (leftN l #[]) (fun k v wr => ∃ (seen : Array Nat) (last m : Nat), k = leftN l seen ∧ v = .int .u32 (Sp.key s.base m) ∧ LastAt w wr mb clk s l seen last m)
  case atStart =>
    exact ⟨#[], clk, 0, rfl, by rw [Sp.key_zero hi.ok.base], ⟨heap_alloc_new _ _, Nat.le_refl _, (by repeat (first | (with_reducible exact Fr.refl _ _) | (with_reducible refine Fr.drewN ?_ _) | (with_reducible refine Fr.drew ?_) | (with_reducible refine Fr.alloc ?_ _))), .inl rfl, fun e _ he => absurd he (Array.not_mem_empty _)⟩⟩
  case round =>
    obtain ⟨seen, last, m, hk, rfl, hI⟩ := hrel
    have HK := Lib.hid hk
    clear hk hrange
    have hmr : IsMap wr mb (ents l) clk := hi.map.fr hI.fr id
    rcases next_cases (P := Try.prog) wr 0 w.heap.size mb clk last seen l clk hI.it hmr hi.bornlt hI.cl hi.born with ⟨hall, hrun⟩ | ⟨x, hx, hns, w1, hrun, hent, hit1, hf1, hz1⟩
    · have hlast : s.ds.getLastD 0 = m := by
        have hle : ∀ d ∈ s.ds, d ≤ m := fun d hd => by
          have h1 : Sp.key s.base d ∈ l.map (·.key) := hi.keys.mem_iff.2 (List.mem_map_of_mem hd)
          obtain ⟨e, he, hk⟩ := List.mem_map.1 h1
          have h2 := hI.far e he (hall e he)
          have h3 := hi.ok.rng d hd
          rw [hk, Sp.dist_key (by omega)] at h2
          exact h2
        rcases hI.mem with h0 | hm
        · cases hd : s.ds with
          | nil => simp [h0]
          | cons a r =>
            have h1 := hle a (by simp [hd])
            have h2 := hi.ok.rng a (by simp [hd])
            omega
        · exact Sp.last_at hi.ok.asc hm hle
      have HL := Lib.hid hlast
      have HI := Lib.hid hI
      clear hall hlast
      go_wp2_with fail
      go_ret
      refine ⟨?_, hI.fr⟩
      unfold Sp.last
      rw [HL.out]
      rfl
    · have hd : Sp.dist s.base x.key ∈ s.ds ∧ x.key = Sp.key s.base (Sp.dist s.base x.key) := by
        have h1 : x.key ∈ s.ds.map (Sp.key s.base) := hi.keys.mem_iff.1 (List.mem_map_of_mem (f := (·.key)) hx)
        obtain ⟨d, hd, he⟩ := List.mem_map.1 h1
        have := hi.ok.rng d hd
        rw [← he, Sp.dist_key (by omega)]
        exact ⟨hd, rfl⟩
      have hI2 : LastAt w w1 mb clk s l (seen.push x.born) clk (max m (Sp.dist s.base x.key)) := by
        refine ⟨hit1, Nat.le_refl _, hI.fr.then hf1 (fun i e => .inr (by omega)), ?_, fun e he hs => ?_⟩
        · rcases Nat.le_total m (Sp.dist s.base x.key) with hc | hc
          · rw [Nat.max_eq_right hc]
            exact .inr hd.1
          · rw [Nat.max_eq_left hc]
            exact hI.mem
        · rcases Array.mem_push.1 hs with hs | hs
          · exact Nat.le_trans (hI.far e he hs) (Nat.le_max_left _ _)
          · have : e = x := by
              obtain ⟨i, hi', rfl⟩ := List.getElem_of_mem he
              obtain ⟨j, hj, rfl⟩ := List.getElem_of_mem hx
              have h1 : (l.map (·.born))[i]? = (l.map (·.born))[j]? := by
                rw [List.getElem?_map, List.getElem?_map, List.getElem?_eq_getElem hi', List.getElem?_eq_getElem hj]
                simp only [Option.map_some, hs]
              have := (List.getElem?_inj (by rw [List.length_map]; exact hi') hi.born).1 h1
              subst this
              rfl
            subst this
            exact Nat.le_max_right _ _
      have hm4 : m ≤ 4096 := by
        rcases hI.mem with h0 | hm
        · omega
        · exact (hi.ok.rng m hm).2
      have hd4 := (hi.ok.rng _ hd.1).2
      have hmax := max_key (b := s.base) hm4 hd4
      rw [← hd.2] at hmax
      have hless := leftN_less hx hns
      have HI2 := Lib.hid hI2
      have HMAX := Lib.hid hmax
      have HLESS := Lib.hid hless
      clear hI2 hmax hless hd hI hns hit1
      go_wp2_with (go_at_call 116; refine (max32_any _ _ _).mono ?_; rintro e w2 ⟨rfl, rfl⟩; rw [HMAX.out])
      go_roundg (leftN l (seen.push x.born))
      case measure => rw [HK.out]; exact HLESS.out
      case rel => exact ⟨_, _, _, rfl, rfl, HI2.out⟩
end Go.Proofs.Ytpkbckkminmdmaa
