/- Contract of New of reasm. -/
import Derived.Test.YtpkbckkminmdmaaRsW7
import Derived.WideMake
import Derived.Laws.MakeOwn
namespace Go.Proofs.Ytpkbckkminmdmaa
open Go.RowKit Go.Proofs.YtpkbckkminmdmaaW.PrintWords
attribute [local go_sem] run_makeMap_plain alloc_drewN setCell_drewN isMap_alloc isMap_drew isMap_drewN isMap_setCell cell_setMap frozen_setMap setMap_drew setMap_drewN size_setMap field_piece0 field_data1 field_data3 field_data6

def newGs (mb nb : Nat) (n : Nat) : Gs := { mb := mb, nb := nb, L := [], clk := 0, turns := 0, next := List.replicate n 0, rowA := none, rowc := 0, row := [] }
def NewPost (n : Nat) (w : World) (e : Ending) (w' : World) : Prop :=
  ∃ g mb nb, e = .returned (.tuple #[.pointer (some ⟨g, 0, none⟩), .int .i64 0]) ∧ RsAt w' g (newGs mb nb n) 0 ∧ Fr (fun _ => False) w w' ∧ (∀ k, Foot g (newGs mb nb n) k → w.heap.size ≤ k)
set_option maxRecDepth 100000 in
theorem new_bad (i : Int) (w : World) (h : i < 1 ∨ 16 < i) : Calls Try.prog 28 #[.int .i64 i] w (Same0 (.tuple #[.pointer none, .int .i64 1]) w) := by
  rcases h with h | h
  · have h1 : decide (i < 1) = true := decide_eq_true h
    go_enter Try.func28, Try.ntmps28
    go_wp2_with fail
    go_returns
    exact ⟨rfl, (by repeat (first | (with_reducible exact Fr.refl _ _) | (with_reducible refine Fr.drewN ?_ _) | (with_reducible refine Fr.drew ?_) | (with_reducible refine Fr.alloc ?_ _)))⟩
  · have h1 : decide (i < 1) = false := decide_eq_false (by omega)
    have h2 : decide (16 < i) = true := decide_eq_true h
    go_enter Try.func28, Try.ntmps28
    go_wp2_with fail
    go_returns
    exact ⟨rfl, (by repeat (first | (with_reducible exact Fr.refl _ _) | (with_reducible refine Fr.drewN ?_ _) | (with_reducible refine Fr.drew ?_) | (with_reducible refine Fr.alloc ?_ _)))⟩
set_option maxRecDepth 100000 in
theorem info_u16' : (Try.prog.info? 30).map (fun i => (i.zero, i.size, i.bytes)) = some (some (.int .u16 0), 1, 2) := by kernel_rfl
theorem made16 (n : Nat) : madeCells (Value.int .u16 0).cells (n * 1) = (nums .u16 (List.replicate n 0)).toArray := by
  apply Array.toList_inj.1
  simp only [madeCells, nums, Value.cells, Nat.mul_one, Array.toList_map, Array.toList_range, List.map_replicate]
  refine Eq.trans (List.map_congr_left (g := fun _ => Value.int .u16 0) (fun x _ => ?_)) (by rw [List.map_const', List.length_range])
  rw [show x % #[Value.int IntKind.u16 0].size = 0 from Nat.mod_one x]
  rfl
theorem new_good (n : Nat) (w : World) (h0 : 1 ≤ n) (h1 : n ≤ 16) : Calls Try.prog 28 #[.int .i64 n] w (NewPost n w) := by
  obtain ⟨iu, hiu, hzu, hsu, hbu⟩ := info_parts info_u16'
  have hmk : ∀ W : World, (Instr.makeSlice 120 (.int .i64 (n : Int)) (.int .i64 (n : Int))).run Try.prog W = .ok (.slice (some ⟨W.heap.size, 0, none⟩) n n) (W.alloc (.cells (nums .u16 (List.replicate n 0)).toArray 30)) := fun W => by
    have := run_makeSlice (P := Try.prog) W 120 30 iu _ Try.underlying120 hiu hzu .i64 .i64 (n : Int) (n : Int) (by omega) (by omega) (by rw [hsu]; omega) (by rw [hbu]; omega) (by omega)
    rw [hsu, Int.toNat_natCast, made16] at this
    exact this
  have h2 : decide ((n : Int) < 1) = false := decide_eq_false (by omega)
  have h3 : decide (16 < (n : Int)) = false := decide_eq_false (by omega)
  go_enter Try.func28, Try.ntmps28
  go_wp2_with fail
  go_returns
  have hb : Blk (((w.alloc (.map #[] 0)).alloc (.cells (nums .u16 (List.replicate n 0)).toArray 30)).alloc (.cells (gcells (newGs w.heap.size (w.heap.size + 1) n) 0) 142)) (w.heap.size + 1 + 1) 142 (gcells (newGs w.heap.size (w.heap.size + 1) n) 0) := by
    have := Blk.new ((w.alloc (.map #[] 0)).alloc (.cells (nums .u16 (List.replicate n 0)).toArray 30)) 142 (gcells (newGs w.heap.size (w.heap.size + 1) n) 0)
    simpa using this
  have hnb : Blk ((w.alloc (.map #[] 0)).alloc (.cells (nums .u16 (List.replicate n 0)).toArray 30)) (w.heap.size + 1) 30 (nums .u16 (List.replicate n 0)).toArray := by
    have := Blk.new (w.alloc (.map #[] 0)) 30 (nums .u16 (List.replicate n 0)).toArray
    simpa using this
  have hmp : IsMap ((w.alloc (.map #[] 0)).alloc (.cells (nums .u16 (List.replicate n 0)).toArray 30)) w.heap.size #[] 0 := by
    rw [isMap_alloc _ (by simp)]
    exact heap_alloc_new _ _
  refine ⟨w.heap.size + 1 + 1, w.heap.size, w.heap.size + 1, rfl, ⟨?_, ⟨?_, ?_, ?_, ?_, ?_⟩, ?_⟩, (by repeat (first | (with_reducible exact Fr.refl _ _) | (with_reducible refine Fr.drewN ?_ _) | (with_reducible refine Fr.drew ?_) | (with_reducible refine Fr.alloc ?_ _))), ?_⟩
  · have e : gcells (newGs w.heap.size (w.heap.size + 1) n) 0 = #[Value.map (some w.heap.size), .int .i64 0, .slice (some ⟨w.heap.size + 1, 0, none⟩) n n, .slice none 0 0, .int .i64 0] := by simp [gcells, newGs]
    rw [e] at hb ⊢
    exact hb
  · show IsMap _ w.heap.size #[] 0
    rw [isMap_alloc _ (by simp; omega)]
    exact hmp
  · exact hnb.alloc _
  · exact ⟨rfl, .inl ⟨rfl, none, rfl, fun a ha => by cases ha⟩⟩
  · exact fun e he => by cases he
  · exact fun e he => by cases he
  · refine ⟨by simp [newGs], by simp [newGs], by simp [newGs], by simp [newGs], by simp [newGs], by simp [newGs], by simp [newGs], by simp [newGs], ?_, by simp [newGs]; omega, by simp [newGs], by simp [newGs], by simp [newGs]⟩
    intro x hx
    rw [(List.mem_replicate.1 hx).2]
    decide
  · intro k hk
    rcases hk with e | e | e | e | ⟨x, hx, _⟩ | ⟨x, hx, _⟩
    · rw [e]; omega
    · rw [e]; exact Nat.le_refl _
    · rw [e]; exact Nat.le_succ _
    · cases e
    · cases hx
    · cases hx
end Go.Proofs.Ytpkbckkminmdmaa
