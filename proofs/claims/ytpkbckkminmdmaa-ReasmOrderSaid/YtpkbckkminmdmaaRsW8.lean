/- Contracts of Held, Ready, Take and New of reasm. Contract of New of reasm. -/
import Derived.Test.YtpkbckkminmdmaaRsW6
import Derived.Handy
import Derived.WideMake
import Derived.Laws.MakeOwn
namespace Go.Proofs.Ytpkbckkminmdmaa
open Go.RowKit Go.Proofs.YtpkbckkminmdmaaW.PrintWords
attribute [local go_sem] alloc_drewN setCell_drewN isMap_alloc isMap_drew isMap_drewN isMap_setCell cell_setMap frozen_setMap setMap_drew setMap_drewN size_setMap field_piece0 field_data1 field_data3 field_data6

def Same0 (v : Value) (w : World) (e : Ending) (w' : World) : Prop := e = .returned v ∧ Fr (fun _ => False) w w'
theorem held_nil (w : World) : Calls Try.prog 30 #[.pointer none] w (Same0 (.int .i64 0) w) := by
  go_enter Try.func30, Try.ntmps30
  go_wp2_with fail
  go_ret
  exact ⟨rfl, (by repeat (first | (with_reducible exact Fr.refl _ _) | (with_reducible refine Fr.drewN ?_ _) | (with_reducible refine Fr.drew ?_) | (with_reducible refine Fr.alloc ?_ _)))⟩
theorem held_any {g : Nat} {s : Gs} {h : Int} {w : World} (hr : RsAt w g s h) : Calls Try.prog 30 #[.pointer (some ⟨g, 0, none⟩)] w (Same0 (.int .i64 h) w) := by
  have cg := hr.blk.cell
  have hg := hr.blk.lt
  unfold gcells at cg
  go_enter Try.func30, Try.ntmps30
  go_wp2_with fail
  go_ret
  exact ⟨rfl, (by repeat (first | (with_reducible exact Fr.refl _ _) | (with_reducible refine Fr.drewN ?_ _) | (with_reducible refine Fr.drew ?_) | (with_reducible refine Fr.alloc ?_ _)))⟩
theorem readyN_nil (w : World) : Calls Try.prog 34 #[.pointer none] w (Same0 (.int .i64 0) w) := by
  go_enter Try.func34, Try.ntmps34
  go_wp2_with fail
  go_ret
  exact ⟨rfl, (by repeat (first | (with_reducible exact Fr.refl _ _) | (with_reducible refine Fr.drewN ?_ _) | (with_reducible refine Fr.drew ?_) | (with_reducible refine Fr.alloc ?_ _)))⟩
theorem readyN_any {g : Nat} {s : Gs} {h : Int} {w : World} (hr : RsAt w g s h) : Calls Try.prog 34 #[.pointer (some ⟨g, 0, none⟩)] w (Same0 (.int .i64 s.row.length) w) := by
  have cg := hr.blk.cell
  have hg := hr.blk.lt
  unfold gcells at cg
  go_enter Try.func34, Try.ntmps34
  go_wp2_with fail
  go_ret
  exact ⟨rfl, (by repeat (first | (with_reducible exact Fr.refl _ _) | (with_reducible refine Fr.drewN ?_ _) | (with_reducible refine Fr.drew ?_) | (with_reducible refine Fr.alloc ?_ _)))⟩
def noMsg : Value := .tuple #[.agg #[.int .u16 0, .bool false, .slice none 0 0], .bool false]
set_option maxRecDepth 100000 in
theorem take_nil (w : World) : Calls Try.prog 37 #[.pointer none] w (Same0 noMsg w) := by
  go_enter Try.func37, Try.ntmps37
  go_wp2_with fail
  go_returns
  exact ⟨rfl, (by repeat (first | (with_reducible exact Fr.refl _ _) | (with_reducible refine Fr.drewN ?_ _) | (with_reducible refine Fr.drew ?_) | (with_reducible refine Fr.alloc ?_ _)))⟩
set_option maxRecDepth 100000 in
theorem take_none {g : Nat} {s : Gs} {h : Int} {w : World} (hr : RsAt w g s h) (hn : s.row = []) : Calls Try.prog 37 #[.pointer (some ⟨g, 0, none⟩)] w (Same0 noMsg w) := by
  have cg := hr.blk.cell
  have hg := hr.blk.lt
  have hl : ((s.row.length : Int) == 0) = true := by rw [hn]; rfl
  unfold gcells at cg
  go_enter Try.func37, Try.ntmps37
  go_wp2_with fail
  go_returns
  exact ⟨rfl, (by repeat (first | (with_reducible exact Fr.refl _ _) | (with_reducible refine Fr.drewN ?_ _) | (with_reducible refine Fr.drew ?_) | (with_reducible refine Fr.alloc ?_ _)))⟩

def takeGs (s : Gs) (r : List Me) : Gs := { s with row := r, rowA := if s.rowc = 1 then s.rowA else s.rowA.map (·.add 3), rowc := s.rowc - 1 }
def TakePost (g : Nat) (s : Gs) (h : Int) (m : Me) (r : List Me) (w : World) (e : Ending) (w' : World) : Prop :=
  e = .returned (.tuple #[.agg (mcells m).toArray, .bool true]) ∧ ∃ A c, Upd g s { s with row := r, rowA := A, rowc := c } (h - m.m.bytes.length) w w' ∧ Byt w' m.blk m.cap m.m.bytes
theorem take_upd {g : Nat} {s : Gs} {h h' : Int} {w : World} {m : Me} {r : List Me} {A : Option Addr} {c : Nat} (hr : RsAt w g s h) (hn : s.row = m :: r) (hq : QRow w 0 40 3 (.slice A (s.row.length - 1) c) (s.row.length - 1) ((s.row.flatMap mcells).drop (1 * 3)))
    (hown : ∀ k, (Value.slice A (s.row.length - 1) c).ownBlock = some k → (Value.slice s.rowA s.row.length s.rowc).ownBlock = some k) :
    Upd g s { s with row := r, rowA := A, rowc := c } h' w ((w.setCell ⟨g, 3, none⟩ (.slice A (s.row.length - 1) c)).setCell ⟨g, 4, none⟩ (.int .i64 h')) := by
  have hf : Fr (· = g) w ((w.setCell ⟨g, 3, none⟩ (.slice A (s.row.length - 1) c)).setCell ⟨g, 4, none⟩ (.int .i64 h')) := (Fr.refl _ _).setOne.setOne
  have hlen : s.row.length - 1 = r.length := by rw [hn]; rfl
  have hdr : (s.row.flatMap mcells).drop (1 * 3) = r.flatMap mcells := by rw [hn]; rfl
  have hsub : ∀ x ∈ r, x ∈ s.row := fun x hx => by rw [hn]; exact List.mem_cons_of_mem _ hx
  rw [hlen, hdr] at hq
  refine ⟨⟨?_, ⟨?_, ?_, ?_, ?_, ?_⟩, ?_⟩, ?_, ?_⟩
  · have := (hr.blk.set 3 (.slice A (s.row.length - 1) c)).set 4 (.int .i64 h')
    have e : ((gcells s h).setIfInBounds 3 (.slice A (s.row.length - 1) c)).setIfInBounds 4 (.int .i64 h') = gcells { s with row := r, rowA := A, rowc := c } h' := by simp [gcells, hlen]
    rw [e] at this
    exact this
  · exact hr.inn.map.fr hf (fun e => hr.inn.map.ne_blk hr.blk e)
  · exact hr.inn.nxt.fr hf (fun e => Blk.ne hr.inn.nxt hr.blk (by decide) e)
  · refine q_move hq (fun k hk => hf.block k (q_lt hq k hk) (fun e => ?_))
    obtain ⟨_, cells, ht⟩ := q_typed hq k hk
    exact Blk.ne (t := 40) (t' := 142) ht hr.blk (by decide) e
  · intro e he
    have hb := hr.inn.pcs e he
    obtain ⟨cur, hcur, _⟩ := hb.blk
    exact hb.keep (hf.block _ hb.lt (fun x => Blk.ne hcur hr.blk (by decide) x))
  · intro x hx
    have hb := hr.inn.msg x (hsub x hx)
    obtain ⟨cur, hcur, _⟩ := hb.blk
    exact hb.keep (hf.block _ hb.lt (fun e => Blk.ne hcur hr.blk (by decide) e))
  · refine ⟨?_, hr.ok.keys, hr.ok.born, hr.ok.bornlt, hr.ok.turn, hr.ok.turnlt, hr.ok.tsn, hr.ok.strm, hr.ok.nxr, hr.ok.nxl, hr.ok.ne, fun x hx => hr.ok.nem x (hsub x hx), ?_⟩
    · have := hr.ok.dist
      rw [hn] at this
      exact ((List.Sublist.refl _).append ((List.sublist_cons_self _ _).map _)).nodup this
    · have := hr.ok.cnt
      have hl : s.row.length = r.length + 1 := by rw [hn]; rfl
      show ((s.L.length + r.length : Nat) : Int) ≤ s.turns
      omega
  · exact hf.mono (fun k _ e => .inl e)
  · intro k hk
    rcases hk with e | e | e | e | e | ⟨x, hx, e⟩
    · exact .inl (.inl e)
    · exact .inl (.inr (.inl e))
    · exact .inl (.inr (.inr (.inl e)))
    · exact .inl (.inr (.inr (.inr (.inl (hown k (by rw [hlen]; exact e))))))
    · exact .inl (.inr (.inr (.inr (.inr (.inl e)))))
    · exact .inl (.inr (.inr (.inr (.inr (.inr ⟨x, hsub x hx, e⟩)))))
theorem TakePost.mk {g : Nat} {s : Gs} {h : Int} {w w' : World} {m : Me} {r : List Me} {A : Option Addr} {c : Nat} {v : Value} (hr : RsAt w g s h) (hn : s.row = m :: r) (hv : v = .tuple #[.agg (mcells m).toArray, .bool true])
    (hu : Upd g s { s with row := r, rowA := A, rowc := c } (h - m.m.bytes.length) w w') (hf : Fr (· = g) w w') : TakePost g s h m r w (.returned v) w' := by
  subst hv
  refine ⟨rfl, A, c, hu, ?_⟩
  have hb := hr.inn.msg m (by rw [hn]; exact List.mem_cons_self)
  obtain ⟨cur, hcur, _⟩ := hb.blk
  exact hb.keep (hf.block _ hb.lt (fun x => Blk.ne hcur hr.blk (by decide) x))
set_option maxRecDepth 100000 in
set_option maxHeartbeats 4000000 in
theorem take_some {g : Nat} {s : Gs} {h : Int} {w : World} {m : Me} {r : List Me} (hr : RsAt w g s h) (hn : s.row = m :: r) (h0 : m.m.bytes.length ≤ h) (h1 : h < 1000000000) : Calls Try.prog 37 #[.pointer (some ⟨g, 0, none⟩)] w (TakePost g s h m r w) := by
  have cg := hr.blk.cell
  have hg := hr.blk.lt
  have hgs := hr.blk.lts
  have fg := hr.blk.frozen
  have hrow := hr.inn.row
  have hlen : s.row.length = r.length + 1 := by rw [hn]; rfl
  have hl : ((s.row.length : Int) == 0) = false := by rw [beq_eq_false_iff_ne]; omega
  have hcap : s.row.length ≤ s.rowc := by
    obtain ⟨A, c, he, hle⟩ := q_slice hrow
    injection he with _ _ hc
    omega
  obtain ⟨gq, o, hA, hcell, hql⟩ : ∃ gq o, s.rowA = some ⟨gq, o, none⟩ ∧ (∀ j u, (s.row.flatMap mcells)[j]? = some u → w.cell? ⟨gq, o + j, none⟩ = some u) ∧ gq < w.heap.size := by
    obtain ⟨ad, hA, hcell⟩ := q_cells hrow (by omega)
    rcases hrow.2 with ⟨h0, _⟩ | ⟨g', off, cap, cur, hv, _, hb, _⟩
    · omega
    · injection hv with hv _ _
      rw [hA] at hv
      injection hv with hv
      subst hv
      exact ⟨g', off * 3, hA, fun j u hu => (by have := hcell j u hu; rwa [add_at] at this), blk_lt hb⟩
  have hcs : s.row.flatMap mcells = [.int .u16 m.m.stream, .bool m.m.ord, .slice (some ⟨m.blk, 0, none⟩) m.m.bytes.length m.cap] ++ r.flatMap mcells := by rw [hn]; rfl
  have hgq : g ≠ gq := fun e => by
    obtain ⟨_, cells, ht⟩ := q_typed hrow gq (by rw [hA]; rfl)
    exact Blk.ne (t := 40) (t' := 142) ht hr.blk (by decide) e.symm
  rw [hcs] at hcell
  have c0 : w.cell? ⟨gq, o, none⟩ = _ := hcell 0 _ rfl
  have c1 := hcell 1 _ rfl
  have c2 := hcell 2 _ rfl
  have hsl := q_drop hrow (k := 1) (by omega)
  unfold gcells at cg
  rw [hA] at cg
  have hl1 : (1 : Int) ≤ s.row.length := by omega
  have HN := Lib.hid hn
  have HLEN := Lib.hid hlen
  have HROW := Lib.hid hrow
  have HSL := Lib.hid hsl
  have HA := Lib.hid hA
  clear hn hlen hrow hsl hcell hcs hA
  by_cases hc1 : s.rowc = 1
  · have hc2 : ¬ (0 < s.rowc - 1) := by omega
    go_enter Try.func37, Try.ntmps37
    go_wp2_with fail
    go_region
    go_wp2_with fail
    go_returns
    refine TakePost.mk (A := some ⟨gq, o, none⟩) (c := 0) hr HN.out rfl (upd_drew (Upd.fr0 (take_upd (h' := h - m.m.bytes.length) hr HN.out ?_ ?_) (by repeat (first | (with_reducible exact Fr.refl _ _) | (with_reducible refine Fr.drewN ?_ _) | (with_reducible refine Fr.drew ?_) | (with_reducible refine Fr.alloc ?_ _))))) (by repeat (first | (with_reducible exact Fr.refl _ _) | (with_reducible refine Fr.drewN ?_ _) | (with_reducible refine Fr.drew ?_) | (with_reducible refine Fr.alloc ?_ _) | (with_reducible refine Fr.setOne ?_)))
    · have := HSL.out
      rw [if_pos hc1, HA.out, hc1] at this
      exact this
    · rw [HA.out]
      exact fun k hk => hk
  · have hc2 : 0 < s.rowc - 1 := by omega
    go_enter Try.func37, Try.ntmps37
    go_wp2_with fail
    go_region
    go_wp2_with fail
    go_returns
    refine TakePost.mk (A := some ⟨gq, o + 3, none⟩) (c := s.rowc - 1) hr HN.out rfl (upd_drew (Upd.fr0 (take_upd (h' := h - m.m.bytes.length) hr HN.out ?_ ?_) (by repeat (first | (with_reducible exact Fr.refl _ _) | (with_reducible refine Fr.drewN ?_ _) | (with_reducible refine Fr.drew ?_) | (with_reducible refine Fr.alloc ?_ _))))) (by repeat (first | (with_reducible exact Fr.refl _ _) | (with_reducible refine Fr.drewN ?_ _) | (with_reducible refine Fr.drew ?_) | (with_reducible refine Fr.alloc ?_ _) | (with_reducible refine Fr.setOne ?_)))
    · have := HSL.out
      rw [if_neg hc1, HA.out] at this
      exact this
    · rw [HA.out]
      exact fun k hk => hk
end Go.Proofs.Ytpkbckkminmdmaa
namespace Go.Proofs.Ytpkbckkminmdmaa
open Go.RowKit Go.Proofs.YtpkbckkminmdmaaW.PrintWords
attribute [local go_sem] run_makeMap_plain alloc_drewN setCell_drewN isMap_alloc isMap_drew isMap_drewN isMap_setCell cell_setMap frozen_setMap setMap_drew setMap_drewN size_setMap field_piece0 field_data1 field_data3 field_data6

def newGs (mb nb : Nat) (n : Nat) : Gs := { mb := mb, nb := nb, L := [], clk := 0, turns := 0, next := List.replicate n 0, rowA := none, rowc := 0, row := [] }
def NewPost (n : Nat) (w : World) (e : Ending) (w' : World) : Prop :=
  ∃ g mb nb, e = .returned (.tuple #[.pointer (some ⟨g, 0, none⟩), .int .i64 0]) ∧ RsAt w' g (newGs mb nb n) 0 ∧ Fr (fun _ => False) w w' ∧ (∀ k, Foot g (newGs mb nb n) k → w.heap.size ≤ k)
set_option maxRecDepth 100000 in
theorem new_bad (i : Int) (w : World) (h : i < 1 ∨ 16 < i) : Calls Try.prog 28 #[.int .i64 i] w (Same0 (.tuple #[.pointer none, .int .i64 1]) w) := by
  rcases h with h | h
  · have h1 : decide (i < 1) = true := decide_eq_true h
    go_enter Try.func28, Try.ntmps28
    go_wp2_with fail
    go_returns
    exact ⟨rfl, (by repeat (first | (with_reducible exact Fr.refl _ _) | (with_reducible refine Fr.drewN ?_ _) | (with_reducible refine Fr.drew ?_) | (with_reducible refine Fr.alloc ?_ _)))⟩
  · have h1 : decide (i < 1) = false := decide_eq_false (by omega)
    have h2 : decide (16 < i) = true := decide_eq_true h
    go_enter Try.func28, Try.ntmps28
    go_wp2_with fail
    go_returns
    exact ⟨rfl, (by repeat (first | (with_reducible exact Fr.refl _ _) | (with_reducible refine Fr.drewN ?_ _) | (with_reducible refine Fr.drew ?_) | (with_reducible refine Fr.alloc ?_ _)))⟩
set_option maxRecDepth 100000 in
theorem info_u16' : (Try.prog.info? 30).map (fun i => (i.zero, i.size, i.bytes)) = some (some (.int .u16 0), 1, 2) := by kernel_rfl
theorem made16 (n : Nat) : madeCells (Value.int .u16 0).cells (n * 1) = (nums .u16 (List.replicate n 0)).toArray := by
  apply Array.toList_inj.1
  simp only [madeCells, nums, Value.cells, Nat.mul_one, Array.toList_map, Array.toList_range, List.map_replicate]
  refine Eq.trans (List.map_congr_left (g := fun _ => Value.int .u16 0) (fun x _ => ?_)) (by rw [List.map_const', List.length_range])
  rw [show x % #[Value.int IntKind.u16 0].size = 0 from Nat.mod_one x]
  rfl
theorem new_good (n : Nat) (w : World) (h0 : 1 ≤ n) (h1 : n ≤ 16) : Calls Try.prog 28 #[.int .i64 n] w (NewPost n w) := by
  obtain ⟨iu, hiu, hzu, hsu, hbu⟩ := info_parts info_u16'
  have hmk : ∀ W : World, (Instr.makeSlice 120 (.int .i64 (n : Int)) (.int .i64 (n : Int))).run Try.prog W = .ok (.slice (some ⟨W.heap.size, 0, none⟩) n n) (W.alloc (.cells (nums .u16 (List.replicate n 0)).toArray 30)) := fun W => by
    have := run_makeSlice (P := Try.prog) W 120 30 iu _ Try.underlying120 hiu hzu .i64 .i64 (n : Int) (n : Int) (by omega) (by omega) (by rw [hsu]; omega) (by rw [hbu]; omega) (by omega)
    rw [hsu, Int.toNat_natCast, made16] at this
    exact this
  have h2 : decide ((n : Int) < 1) = false := decide_eq_false (by omega)
  have h3 : decide (16 < (n : Int)) = false := decide_eq_false (by omega)
  go_enter Try.func28, Try.ntmps28
  go_wp2_with fail
  go_returns
  have hb : Blk (((w.alloc (.map #[] 0)).alloc (.cells (nums .u16 (List.replicate n 0)).toArray 30)).alloc (.cells (gcells (newGs w.heap.size (w.heap.size + 1) n) 0) 142)) (w.heap.size + 1 + 1) 142 (gcells (newGs w.heap.size (w.heap.size + 1) n) 0) := by
    have := Blk.new ((w.alloc (.map #[] 0)).alloc (.cells (nums .u16 (List.replicate n 0)).toArray 30)) 142 (gcells (newGs w.heap.size (w.heap.size + 1) n) 0)
    simpa using this
  have hnb : Blk ((w.alloc (.map #[] 0)).alloc (.cells (nums .u16 (List.replicate n 0)).toArray 30)) (w.heap.size + 1) 30 (nums .u16 (List.replicate n 0)).toArray := by
    have := Blk.new (w.alloc (.map #[] 0)) 30 (nums .u16 (List.replicate n 0)).toArray
    simpa using this
  have hmp : IsMap ((w.alloc (.map #[] 0)).alloc (.cells (nums .u16 (List.replicate n 0)).toArray 30)) w.heap.size #[] 0 := by
    rw [isMap_alloc _ (by simp)]
    exact heap_alloc_new _ _
  refine ⟨w.heap.size + 1 + 1, w.heap.size, w.heap.size + 1, rfl, ⟨?_, ⟨?_, ?_, ?_, ?_, ?_⟩, ?_⟩, (by repeat (first | (with_reducible exact Fr.refl _ _) | (with_reducible refine Fr.drewN ?_ _) | (with_reducible refine Fr.drew ?_) | (with_reducible refine Fr.alloc ?_ _))), ?_⟩
  · have e : gcells (newGs w.heap.size (w.heap.size + 1) n) 0 = #[Value.map (some w.heap.size), .int .i64 0, .slice (some ⟨w.heap.size + 1, 0, none⟩) n n, .slice none 0 0, .int .i64 0] := by simp [gcells, newGs]
    rw [e] at hb ⊢
    exact hb
  · show IsMap _ w.heap.size #[] 0
    rw [isMap_alloc _ (by simp; omega)]
    exact hmp
  · exact hnb.alloc _
  · exact ⟨rfl, .inl ⟨rfl, none, rfl, fun a ha => by cases ha⟩⟩
  · exact fun e he => by cases he
  · exact fun e he => by cases he
  · refine ⟨by simp [newGs], by simp [newGs], by simp [newGs], by simp [newGs], by simp [newGs], by simp [newGs], by simp [newGs], by simp [newGs], ?_, by simp [newGs]; omega, by simp [newGs], by simp [newGs], by simp [newGs]⟩
    intro x hx
    rw [(List.mem_replicate.1 hx).2]
    decide
  · intro k hk
    rcases hk with e | e | e | e | ⟨x, hx, _⟩ | ⟨x, hx, _⟩
    · rw [e]; omega
    · rw [e]; exact Nat.le_refl _
    · rw [e]; exact Nat.le_succ _
    · cases e
    · cases hx
    · cases hx
end Go.Proofs.Ytpkbckkminmdmaa
