/- Contract of (*Reasm).ready: the pieces of a message leave the map, the message joins the row. -/
import Derived.Test.YtpkbckkminmdmaaRsMem
import Derived.Deep.RegionLaw
import Derived.BigRegion
import Derived.StillTailTactics
namespace Go.Proofs.Ytpkbckkminmdmaa
open Go.RowKit Go.Proofs.YtpkbckkminmdmaaW.PrintWords
attribute [local go_sem] alloc_drewN setCell_drewN isMap_alloc isMap_drew isMap_drewN isMap_setCell cell_setMap frozen_setMap setMap_drew setMap_drewN size_setMap

theorem field_piece0 (c0 c1 c2 c3 c4 c5 c6 c7 : Value) (W : World) : (Instr.field 151 (.agg #[c0, c1, c2, c3, c4, c5, c6, c7]) 0).run Try.prog W = .ok (.agg #[c0, c1, c2, c3, c4, c5, c6]) W := by kernel_rfl
theorem field_data1 (c0 c1 c2 c3 c4 c5 c6 : Value) (W : World) : (Instr.field 33 (.agg #[c0, c1, c2, c3, c4, c5, c6]) 1).run Try.prog W = .ok c1 W := by kernel_rfl
theorem field_data3 (c0 c1 c2 c3 c4 c5 c6 : Value) (W : World) : (Instr.field 33 (.agg #[c0, c1, c2, c3, c4, c5, c6]) 3).run Try.prog W = .ok c3 W := by kernel_rfl
theorem field_data6 (c0 c1 c2 c3 c4 c5 c6 : Value) (W : World) : (Instr.field 33 (.agg #[c0, c1, c2, c3, c4, c5, c6]) 6).run Try.prog W = .ok c6 W := by kernel_rfl
attribute [local go_sem] field_piece0 field_data1 field_data3 field_data6

def dropP (L l : List Pe) : List Pe := L.filter fun e => !(l.any fun q => q.p.tsn == e.p.tsn)
theorem dropP_nil (L : List Pe) : dropP L [] = L := by simp [dropP]
theorem dropP_snoc (L l : List Pe) (x : Pe) : dropP L (l ++ [x]) = (dropP L l).filter (fun e => e.p.tsn != x.p.tsn) := by
  unfold dropP
  rw [List.filter_filter]
  congr 1
  funext e
  simp only [List.any_append, List.any_cons, List.any_nil, Bool.or_false, Bool.not_or, bne]
  rw [Bool.and_comm]
  have : (x.p.tsn == e.p.tsn) = (e.p.tsn == x.p.tsn) := by rw [Bool.eq_iff_iff, beq_iff_eq, beq_iff_eq, eq_comm]
  rw [this]
theorem any_pc (l : List Pe) (t : Int) : (l.map (·.p)).any (fun q => q.tsn == t) = l.any (fun q => q.p.tsn == t) := by
  rw [List.any_map]
  rfl
theorem dropP_pc (L l : List Pe) : (dropP L l).map (·.p) = Rs.without (L.map (·.p)) (l.map (·.p)) := by
  unfold dropP Rs.without
  rw [List.filter_map]
  congr 1
  apply List.filter_congr
  intro e _
  show _ = !((l.map (·.p)).any fun q => q.tsn == e.p.tsn)
  rw [any_pc]
theorem en_filter (L : List Pe) (t : Int) : (L.map Pe.en).filter (fun x => x.key != t) = (L.filter fun e => e.p.tsn != t).map Pe.en := by
  rw [List.filter_map]
  rfl
theorem en_keys (L : List Pe) : (L.map Pe.en).map (·.key) = L.map (·.p.tsn) := by
  rw [List.map_map]
  rfl
theorem find_of_mem {L : List Pe} (hn : (L.map (·.p.tsn)).Nodup) {e : Pe} (he : e ∈ L) : L.find? (fun x => x.p.tsn == e.p.tsn) = some e := by
  induction L with
  | nil => cases he
  | cons a l ih =>
    have hn' := List.nodup_cons.1 (show (a.p.tsn :: l.map (·.p.tsn)).Nodup from hn)
    rcases List.mem_cons.1 he with rfl | he
    · simp
    · have hne : a.p.tsn ≠ e.p.tsn := fun h => hn'.1 (by rw [h]; exact List.mem_map_of_mem (f := (·.p.tsn)) he)
      simp [hne, ih hn'.2 he]
theorem dropP_keys {L : List Pe} (l : List Pe) (hn : (L.map (·.p.tsn)).Nodup) : ((dropP L l).map (·.p.tsn)).Nodup :=
  (List.Sublist.map _ List.filter_sublist).nodup hn
theorem find_dropP {L l : List Pe} (hn : (L.map (·.p.tsn)).Nodup) {e : Pe} (he : e ∈ L) (hl : ∀ q ∈ l, q.p.tsn ≠ e.p.tsn) : (dropP L l).find? (fun x => x.p.tsn == e.p.tsn) = some e :=
  find_of_mem (dropP_keys l hn) (List.mem_filter.2 ⟨he, by simpa using hl⟩)

/-- Pieces one behind the other. -/
structure Chain (L l : List Pe) (first : Int) : Prop where
  pos : 0 < l.length
  mem : ∀ e ∈ l, e ∈ L
  tsn : ∀ i (h : i < l.length), (l[i]).p.tsn = (first + i) % 4294967296
  len : l.length < 4294967296
theorem Chain.ne {L l : List Pe} {first : Int} (h : Chain L l first) {i : Nat} (hi : i < l.length) : ∀ q ∈ l.take i, q.p.tsn ≠ (l[i]).p.tsn := by
  intro q hq
  obtain ⟨j, hj, rfl⟩ := List.getElem_of_mem hq
  rw [List.length_take] at hj
  rw [List.getElem_take, h.tsn j (by omega), h.tsn i hi]
  have := h.len
  omega

theorem flat_len (l : List Pe) : (l.flatMap (·.p.bytes)).length = (l.map (·.p.bytes.length)).sum := by
  rw [List.length_flatMap]
theorem flat_take (l : List Pe) (i : Nat) (h : i < l.length) : (l.take (i + 1)).flatMap (·.p.bytes) = (l.take i).flatMap (·.p.bytes) ++ (l[i]).p.bytes := by
  rw [← List.take_append_getElem h, List.flatMap_append]
  simp
theorem sum_take_le : ∀ (l : List Nat) (i : Nat), (l.take i).sum ≤ l.sum
  | [], i => by simp
  | a :: l, 0 => by simp
  | a :: l, i + 1 => by
    have := sum_take_le l i
    simp only [List.take_succ_cons, List.sum_cons]
    omega
theorem flat_le (l : List Pe) (i : Nat) (h : i < l.length) : ((l.take i).flatMap (·.p.bytes)).length + (l[i]).p.bytes.length ≤ (l.map (·.p.bytes.length)).sum := by
  have h1 := congrArg List.length (flat_take l i h)
  rw [List.length_append] at h1
  rw [← h1, flat_len, List.map_take]
  exact sum_take_le _ _

/-- The loop of 'ready' stands in front of l[i]. -/
structure RD (s : Gs) (l : List Pe) (w : World) (bm : Nat) (st : Int) (od : Bool) (i : Nat) (A : Option Addr) (n c : Nat) (wr : World) : Prop where
  le : i ≤ l.length
  map : IsMap wr s.mb (ents ((dropP s.L (l.take i)).map Pe.en)) s.clk
  box : Blk wr bm 40 #[.int .u16 st, .bool od, .slice A n c]
  len : n = ((l.take i).flatMap (·.p.bytes)).length
  own : wr.ownsRow w.heap.size 5 1 (.slice A n c) n (nums .u8 ((l.take i).flatMap (·.p.bytes)))
  fr : Fr (· = s.mb) w wr
  new : w.heap.size ≤ bm

theorem RD.step {s : Gs} {l : List Pe} {w wr w1 : World} {bm : Nat} {st : Int} {od : Bool} {i : Nat} {A : Option Addr} {n c : Nat} (hI : RD s l w bm st od i A n c wr) (hlt : i < l.length) {g1 cap1 : Nat} {x : Pe} (hx : x = l[i])
    (hown1 : w1.ownsRow w.heap.size 5 1 (.slice (some ⟨g1, 0, none⟩) (n + x.p.bytes.length) cap1) (n + x.p.bytes.length) (nums .u8 ((l.take i).flatMap (·.p.bytes)) ++ nums .u8 x.p.bytes))
    (hgrow : wr.grownBy w1 (Value.slice A n c).ownBlock) {W : World} (hW : W = setMap (w1.setCell ⟨bm, 2, none⟩ (.slice (some ⟨g1, 0, none⟩) (n + x.p.bytes.length) cap1)) s.mb (ents (List.map Pe.en (dropP s.L (l.take (i + 1))))) s.clk) :
    RD s l w bm st od (i + 1) (some ⟨g1, 0, none⟩) (n + x.p.bytes.length) cap1 W := by
  subst hW
  have hown := hI.own
  have hn : ∀ k, (Value.slice A n c).ownBlock = some k → w.heap.size ≤ k ∧ k ≠ bm ∧ k ≠ s.mb := by
    intro k hk
    obtain ⟨cells, ht⟩ := own_typed hown k hk
    exact ⟨(hown.lt k hk).1, fun e => by subst e; exact Blk.ne (t := 5) (t' := 40) ht hI.box (by decide) rfl, fun e => by subst e; exact hI.map.ne_blk ht rfl⟩
  have hb1 := hI.box.grown hgrow (fun e => (hn _ e.symm).2.1 rfl)
  have hm1 := hI.map.grown hgrow (fun e => (hn _ e.symm).2.2 rfl)
  obtain ⟨cells1, ht1⟩ := own_typed hown1 g1 rfl
  have hg1b : g1 ≠ bm := fun e => by subst e; exact Blk.ne (t := 5) (t' := 40) ht1 hb1 (by decide) rfl
  have hg1m : g1 ≠ s.mb := fun e => by subst e; exact hm1.ne_blk ht1 rfl
  have hf := flat_take l i hlt
  rw [← hx] at hf
  refine ⟨hlt, ?_, ?_, ?_, ?_, ?_, hI.new⟩
  · exact IsMap.set (by rw [isMap_setCell]; exact hm1) _ _
  · rw [blk_setMap]
    exact hb1.set 2 _
  · rw [hf, List.length_append, ← hI.len]
  · rw [hf, nums_append]
    refine own_move hown1 (fun k hk => ?_)
    have hk' : g1 = k := by simpa [Value.ownBlock] using hk
    subst hk'
    exact (heap_setMap hg1m).trans (Below.heap_setCell _ _ _ _ hg1b)
  · exact ((hI.fr.grown hgrow (fun k hk => .inr (hn k hk).1)).setAt (.inr hI.new)).setMap (.inl rfl)

theorem filter_less {α : Type} (f : α → Bool) : ∀ (l : List α) (x : α), x ∈ l → f x = false → (l.filter f).length < l.length
  | [], x, h, _ => by cases h
  | a :: l, x, h, hx => by
    rcases List.mem_cons.1 h with rfl | h
    · rw [List.filter_cons_of_neg (by simp [hx])]
      have := List.length_filter_le f l
      simp
      omega
    · have := filter_less f l x h hx
      by_cases ha : f a = true
      · rw [List.filter_cons_of_pos ha, List.length_cons, List.length_cons]
        omega
      · rw [List.filter_cons_of_neg ha]
        simp
        omega
/-- What 'ready' leaves. -/
def readyGs (s : Gs) (l : List Pe) (A' : Option Addr) (c' g1 cap1 : Nat) : Gs := { s with L := dropP s.L l, rowA := A', rowc := c', row := s.row ++ [⟨Rs.msgOf (l.map (·.p)), g1, cap1⟩] }
theorem readyGs_abs (s : Gs) (l : List Pe) (A' : Option Addr) (c' g1 cap1 : Nat) : (readyGs s l A' c' g1 cap1).abs = Rs.ready s.abs (l.map (·.p)) := by
  unfold readyGs Gs.abs Rs.ready
  dsimp only
  rw [dropP_pc, List.map_append]
  rfl
theorem msg_bytes (l : List Pe) : (Rs.msgOf (l.map (·.p))).bytes = l.flatMap (·.p.bytes) := by
  unfold Rs.msgOf
  dsimp only
  rw [List.flatMap_map]
theorem ready_close {g : Nat} {s : Gs} {h : Int} {l : List Pe} {first : Int} {w W6 w2 : World} {bm : Nat} {p0 : Pe} {g1 nn cap1 c' : Nat} {A' : Option Addr} {X : Obj} (hr : RsAt w g s h) (hc : Chain s.L l first) (hp0 : p0 = l[0]'hc.pos)
    (hR : RD s l w bm p0.p.stream (!p0.p.un) l.length (some ⟨g1, 0, none⟩) nn cap1 W6)
    (hq : QRow w2 0 40 3 (.slice A' (s.row.length + 1) c') (s.row.length + 1) (s.row.flatMap mcells ++ [.int .u16 p0.p.stream, .bool (!p0.p.un), .slice (some ⟨g1, 0, none⟩) nn cap1]))
    (hg2 : (W6.alloc X).grownBy w2 (Value.slice s.rowA s.row.length s.rowc).ownBlock)
    (hat : (Value.slice A' (s.row.length + 1) c').ownBlock = (Value.slice s.rowA s.row.length s.rowc).ownBlock ∨ ∃ b, (Value.slice A' (s.row.length + 1) c').ownBlock = some b ∧ (W6.alloc X).heap.size ≤ b) :
    Upd g s (readyGs s l A' c' g1 cap1) h w (w2.setCell ⟨g, 3, none⟩ (.slice A' (s.row.length + 1) c')) := by
  have hrowk : ∀ k, (Value.slice s.rowA s.row.length s.rowc).ownBlock = some k → k < w.heap.size ∧ ∃ cells, w.heap[k]? = some (.cells cells 40 (0, 0)) := by
    intro k hk
    obtain ⟨_, cells, ht⟩ := q_typed hr.inn.row k hk
    exact ⟨q_lt hr.inn.row k hk, cells, ht⟩
  have hmg : s.mb ≠ g := hr.inn.map.ne_blk hr.blk
  have hrg : ∀ k, (Value.slice s.rowA s.row.length s.rowc).ownBlock = some k → k ≠ g := by
    intro k hk e
    subst e
    obtain ⟨_, cells, ht⟩ := hrowk k hk
    exact Blk.ne (t := 40) (t' := 142) ht hr.blk (by decide) rfl
  -- the world behind, by blocks
  have f6 : Fr (· = s.mb) w (W6.alloc X) := hR.fr.alloc X
  have f2 : Fr (fun k => k = s.mb ∨ (Value.slice s.rowA s.row.length s.rowc).ownBlock = some k) w w2 := (f6.mono (fun _ _ e => .inl e)).grown hg2 (fun k hk => .inl (.inr hk))
  have fF : Fr (fun k => k = s.mb ∨ (Value.slice s.rowA s.row.length s.rowc).ownBlock = some k ∨ k = g) w (w2.setCell ⟨g, 3, none⟩ (.slice A' (s.row.length + 1) c')) :=
    (f2.mono (fun _ _ e => e.elim (fun e => .inl e) (fun e => .inr (.inl e)))).setAt (.inl (.inr (.inr rfl)))
  have hbg2 : Blk w2 g _ _ := hr.blk.fr f2 (fun e => by
    rcases e with e | e
    · exact hmg e.symm
    · exact hrg g e rfl)
  have hlt : ∀ k, Foot g s k → k < w.heap.size := fun k hk => hr.foot_lt hk
  have hg1 := hR.own.lt g1 rfl
  obtain ⟨cells1, ht1⟩ := own_typed hR.own g1 rfl
  have hlen : nn = (Rs.msgOf (l.map (·.p))).bytes.length := by rw [msg_bytes, hR.len, List.take_length]
  have hpos : 0 < (Rs.msgOf (l.map (·.p))).bytes.length := by
    rw [msg_bytes]
    have h0 := hr.ok.ne _ (hc.mem _ (List.getElem_mem hc.pos))
    have := flat_le l 0 hc.pos
    rw [flat_len]
    omega
  have hmap2 : IsMap w2 s.mb (ents ((dropP s.L l).map Pe.en)) s.clk := by
    have h6 := hR.map
    rw [List.take_length] at h6
    have h6' : IsMap (W6.alloc X) s.mb (ents ((dropP s.L l).map Pe.en)) s.clk := by rw [isMap_alloc _ h6.lt]; exact h6
    exact h6'.grown hg2 (fun e => by
      obtain ⟨_, cells, ht⟩ := hrowk _ e.symm
      exact hr.inn.map.ne_blk ht rfl)
  refine ⟨⟨?_, ⟨?_, ?_, ?_, ?_, ?_⟩, ?_⟩, ?_, ?_⟩
  · -- the object's own block
    have h3 := hbg2.set 3 (.slice A' (s.row.length + 1) c')
    have e : (gcells s h).setIfInBounds 3 (.slice A' (s.row.length + 1) c') = gcells (readyGs s l A' c' g1 cap1) h := by
      simp [gcells, readyGs]
    rw [e] at h3
    exact h3
  · show IsMap _ s.mb (ents ((dropP s.L l).map Pe.en)) s.clk
    rw [isMap_setCell]
    exact hmap2
  · refine hr.inn.nxt.fr fF (fun e => ?_)
    rcases e with e | e | e
    · exact hr.inn.map.ne_blk hr.inn.nxt e.symm
    · obtain ⟨_, cells, ht⟩ := hrowk _ e
      exact Blk.ne (t := 40) (t' := 30) ht hr.inn.nxt (by decide) rfl
    · exact Blk.ne hr.inn.nxt hr.blk (by decide) e
  · show QRow _ 0 40 3 (.slice A' (s.row ++ [_]).length c') (s.row ++ [_]).length ((s.row ++ [_]).flatMap mcells)
    have e1 : (s.row ++ [(⟨Rs.msgOf (l.map (·.p)), g1, cap1⟩ : Me)]).length = s.row.length + 1 := by simp
    have e2 : (s.row ++ [(⟨Rs.msgOf (l.map (·.p)), g1, cap1⟩ : Me)]).flatMap mcells = s.row.flatMap mcells ++ [.int .u16 p0.p.stream, .bool (!p0.p.un), .slice (some ⟨g1, 0, none⟩) nn cap1] := by
      rw [List.flatMap_append]
      congr 1
      rw [List.flatMap_cons, List.flatMap_nil, List.append_nil, hlen]
      unfold mcells
      have h0 : l.head? = some p0 := by rw [hp0, List.head?_eq_getElem?, List.getElem?_eq_getElem hc.pos]
      simp [Rs.msgOf, h0]
    rw [e1, e2]
    refine q_move hq (fun k hk => Below.heap_setCell _ _ _ _ (fun e => ?_))
    have e' : k = g := e
    rcases hat with ha | ⟨b, hb, hbl⟩
    · exact hrg k (by rw [← ha]; exact hk) e'
    · rw [hk] at hb
      injection hb with hb
      have := f6.size
      have := hr.blk.lt
      omega
  · intro e he
    have heL : e ∈ s.L := (List.mem_filter.1 he).1
    have hb := hr.inn.pcs e heL
    refine hb.keep (fF.block _ hb.lt (fun x => ?_))
    obtain ⟨cur, hcur, _⟩ := hb.blk
    rcases x with x | x | x
    · exact hr.inn.map.ne_blk hcur x.symm
    · obtain ⟨_, cells, ht⟩ := hrowk _ x
      exact Blk.ne (t := 40) (t' := 5) ht hcur (by decide) rfl
    · exact Blk.ne hcur hr.blk (by decide) x
  · intro m hm
    rcases List.mem_append.1 hm with hm | hm
    · have hb := hr.inn.msg m hm
      refine hb.keep (fF.block _ hb.lt (fun x => ?_))
      obtain ⟨cur, hcur, _⟩ := hb.blk
      rcases x with x | x | x
      · exact hr.inn.map.ne_blk hcur x.symm
      · obtain ⟨_, cells, ht⟩ := hrowk _ x
        exact Blk.ne (t := 40) (t' := 5) ht hcur (by decide) rfl
      · exact Blk.ne hcur hr.blk (by decide) x
    · have hm' := List.mem_singleton.1 hm
      subst hm'
      show Byt _ g1 cap1 (Rs.msgOf (l.map (·.p))).bytes
      have hb : Byt W6 g1 cap1 (Rs.msgOf (l.map (·.p))).bytes := by
        have h0 := hR.own
        rw [hlen, List.take_length, ← msg_bytes] at h0
        refine ⟨h0.1, ?_⟩
        rcases h0.2 with ⟨hv, _⟩ | ⟨g', cap', cur, hv, _, r⟩
        · cases hv
        · exact .inr ⟨g', cap', cur, hv, Nat.zero_le _, r⟩
      have hne : some g1 ≠ (Value.slice s.rowA s.row.length s.rowc).ownBlock := fun e => by
        have := (hrowk _ e.symm).1
        omega
      refine hb.keep ?_
      rw [Below.heap_setCell _ _ _ _ (show g1 ≠ g by have := hr.blk.lt; omega), hg2.block g1 (by simp; omega) hne, Below.heap_alloc _ _ _ hb.lt]
  · -- what holds of the parts
    have hsub : (dropP s.L l).Sublist s.L := List.filter_sublist
    refine ⟨?_, (hsub.map _).nodup hr.ok.keys, hr.ok.born.sublist (hsub.map _), fun e he => hr.ok.bornlt e (hsub.mem he), hr.ok.turn.sublist (hsub.map _), fun e he => hr.ok.turnlt e (hsub.mem he), fun e he => hr.ok.tsn e (hsub.mem he), fun e he => hr.ok.strm e (hsub.mem he), hr.ok.nxr, hr.ok.nxl, fun e he => hr.ok.ne e (hsub.mem he), ?_, ?_⟩
    · show ((dropP s.L l).map (·.blk) ++ (s.row ++ [(⟨Rs.msgOf (l.map (·.p)), g1, cap1⟩ : Me)]).map (·.blk)).Nodup
      rw [List.map_append, ← List.append_assoc, List.nodup_append]
      refine ⟨((hsub.map _).append (List.Sublist.refl _)).nodup hr.ok.dist, by simp, ?_⟩
      intro a ha b hb
      simp only [List.map_cons, List.map_nil, List.mem_singleton] at hb
      intro e
      rw [e, hb] at ha
      have hlt' : g1 < w.heap.size := by
        rcases List.mem_append.1 ha with ha | ha
        · obtain ⟨x, hx, hxe⟩ := List.mem_map.1 ha
          have := (hr.inn.pcs x (hsub.mem hx)).lt
          omega
        · obtain ⟨x, hx, hxe⟩ := List.mem_map.1 ha
          have := (hr.inn.msg x hx).lt
          omega
      omega
    · intro m hm
      rcases List.mem_append.1 hm with hm | hm
      · exact hr.ok.nem m hm
      · have hm' := List.mem_singleton.1 hm
        subst hm'
        exact hpos
    · show (((dropP s.L l).length + (s.row ++ [_]).length : Nat) : Int) ≤ s.turns
      have h1 := filter_less (fun e => !(l.any fun q => q.p.tsn == e.p.tsn)) s.L (l[0]'hc.pos) (hc.mem _ (List.getElem_mem hc.pos)) (by
        simp only [Bool.not_eq_false']
        rw [List.any_eq_true]
        exact ⟨_, List.getElem_mem hc.pos, by simp⟩)
      have h2 := hr.ok.cnt
      have h3 : (dropP s.L l).length < s.L.length := h1
      simp
      omega
  · exact fF.mono (fun k hk e => by
      rcases e with e | e | e
      · exact .inr (.inl e)
      · exact .inr (.inr (.inr (.inl e)))
      · exact .inl e)
  · intro k hk
    rcases hk with e | e | e | e | ⟨x, hx, e⟩ | ⟨m, hm, e⟩
    · exact .inl (.inl e)
    · exact .inl (.inr (.inl e))
    · exact .inl (.inr (.inr (.inl e)))
    · have e' : (Value.slice A' (s.row.length + 1) c').ownBlock = some k := by
        have : (readyGs s l A' c' g1 cap1).row.length = s.row.length + 1 := by simp [readyGs]
        rw [← this]
        exact e
      rcases hat with ha | ⟨b, hb, hbl⟩
      · exact .inl (.inr (.inr (.inr (.inl (by rw [← ha]; exact e')))))
      · rw [e'] at hb
        injection hb with hb
        have := f6.size
        exact .inr (by omega)
    · exact .inl (.inr (.inr (.inr (.inr (.inl ⟨x, (List.mem_filter.1 hx).1, e⟩)))))
    · rcases List.mem_append.1 hm with hm | hm
      · exact .inl (.inr (.inr (.inr (.inr (.inr ⟨m, hm, e⟩)))))
      · have hm' := List.mem_singleton.1 hm
        subst hm'
        exact .inr (by have : g1 = k := e; omega)

set_option maxRecDepth 100000 in
set_option maxHeartbeats 2000000 in
theorem ready_any (g : Nat) (s : Gs) (h : Int) (l : List Pe) (first last : Int) (w : World) (hr : RsAt w g s h) (hc : Chain s.L l first) (hf : (l[0]'hc.pos).p.tsn = first) (hla : (l[l.length - 1]'(by have := hc.pos; omega)).p.tsn = last)
    (hsz : (l.map (·.p.bytes.length)).sum < 1000000000) (hrow : s.row.length < 1000000) :
    Calls Try.prog 106 #[.pointer (some ⟨g, 0, none⟩), .int .u32 first, .int .u32 last] w fun e w' => e = .returned (.tuple #[]) ∧ ∃ s', Upd g s s' h w w' ∧ s'.abs = Rs.ready s.abs (l.map (·.p)) ∧ s'.turns = s.turns ∧ s'.mb = s.mb ∧ s'.nb = s.nb ∧ s'.clk = s.clk ∧ s'.L = dropP s.L l ∧ s'.next = s.next := by
  have hgl := hr.blk.lt
  have hgs := hr.blk.lts
  have cg := hr.blk.cell
  have fg := hr.blk.frozen
  have hm := hr.inn.map
  have hml := hm.lt
  have hms := hm.lts
  have hfind := find_of_mem hr.ok.keys (hc.mem _ (List.getElem_mem hc.pos))
  rw [hf] at hfind
  have hrun : ∀ W : World, IsMap W s.mb (ents (s.L.map Pe.en)) s.clk → Sem.run Try.prog (Instr.lookup 140 (.map (some s.mb)) (.int .u32 first) false) W = .ok (.agg (pcells (l[0]'hc.pos))) W := fun W hW =>
    run_lookup_in Try.underlying140 Try.underlying29 _ first (l[0]'hc.pos).en (by rw [find_en, hfind]; rfl) false W hW
  unfold gcells at cg
  unfold pcells at hrun
  obtain ⟨p0, hp0⟩ : ∃ p0, p0 = l[0]'hc.pos := ⟨_, rfl⟩
  rw [← hp0] at hrun hfind hf
  have HF := Lib.hid hf
  have HFI := Lib.hid hfind
  have HP := Lib.hid hp0
  clear hf hfind hp0
  go_enter Try.func106, Try.ntmps106
  go_wp2_with fail
  go_region
  go_wp2_with fail
  have hmb : s.mb ≠ g := hm.ne_blk hr.blk
  have hi8 := info_parts info_u8
  obtain ⟨i8, hi8, hz8, hsz8, hby8⟩ := hi8
  go_loopg [7] (l.length) (fun k t wr => ∃ (i : Nat) (A : Option Addr) (n c : Nat), k = l.length - i ∧ i < l.length ∧ t = .int .u32 ((first + i) % 4294967296) ∧ RD s l w w.heap.size p0.p.stream (!p0.p.un) i A n c wr)
  case atStart =>
    refine ⟨0, none, 0, 0, rfl, hc.pos, ?_, ⟨Nat.zero_le _, ?_, ?_, rfl, World.ownsRow_nil _ _ _ _, ((Fr.refl _ _).alloc _).drew, Nat.le_refl _⟩⟩
    · have h0 := hc.tsn 0 hc.pos
      rw [← HP.out, HF.out] at h0
      rw [← h0]
    · rw [List.take_zero, dropP_nil]
      exact (by rw [isMap_drew, isMap_alloc _ hml]; exact hm)
    · exact Blk.new _ _ _
  case round =>
    obtain ⟨i, A, n, c, hk, hilt, rfl, hI⟩ := hrel
    have HK := Lib.hid hk
    clear hk
    have hx := hc.mem _ (List.getElem_mem hilt)
    have hxt := hc.tsn i hilt
    obtain ⟨x, hxe⟩ : ∃ x, x = l[i]'hilt := ⟨_, rfl⟩
    rw [← hxe] at hx hxt
    have hfx := find_dropP hr.ok.keys hx (l := l.take i) (by rw [hxe]; exact hc.ne hilt)
    have hrun2 : ∀ W : World, IsMap W s.mb (ents ((dropP s.L (l.take i)).map Pe.en)) s.clk → Sem.run Try.prog (Instr.lookup 140 (.map (some s.mb)) (.int .u32 ((first + i) % 4294967296)) false) W = .ok (.agg (pcells x)) W := fun W hW =>
      run_lookup_in Try.underlying140 Try.underlying29 _ _ x.en (by rw [find_en, ← hxt, hfx]; rfl) false W hW
    have hdel : ∀ (ty : TypeId) (W : World), IsMap W s.mb (ents ((dropP s.L (l.take i)).map Pe.en)) s.clk → Sem.run Try.prog (Builtin.delete_ #[140, 29] ty #[.map (some s.mb), .int .u32 ((first + i) % 4294967296)]) W = .ok (.tuple #[]) (setMap W s.mb (ents ((dropP s.L (l.take (i + 1))).map Pe.en)) s.clk) := fun ty W hW => by
      rw [run_delete Try.underlying140 Try.underlying29 _ (by rw [en_keys]; exact dropP_keys _ hr.ok.keys) _ ty W hW, en_filter, ← hxt, ← dropP_snoc, hxe, List.take_append_getElem]
    unfold pcells at hrun2
    have HXE := Lib.hid hxe
    have HXT := Lib.hid hxt
    have HFX := Lib.hid hfx
    clear hxe hxt hfx hrun
    have hby := hr.inn.pcs x hx
    have hbne : x.blk ≠ s.mb := by
      obtain ⟨cur, hb, _⟩ := hby.blk
      exact fun e => hm.ne_blk hb e.symm
    have hbr : Byt wr x.blk x.cap x.p.bytes := hby.keep (hI.fr.block _ hby.lt hbne)
    have hpos := hr.ok.ne x hx
    have cb := hI.box.cell
    have fb := hI.box.frozen
    have lb := hI.box.lt
    have lbs := hI.box.lts
    have hmr := hI.map
    have hmrl := hI.map.lt
    have hmrls := hI.map.lts
    have hBg : Blk wr g _ _ := hr.blk.fr hI.fr (fun e => hmb e.symm)
    have cgr := hBg.cell
    unfold gcells at cgr
    have hgr := hBg.lt
    have hgrs := hBg.lts
    have hown := hI.own
    have hnA : ∀ k, (Value.slice A n c).ownBlock = some k → k ≠ w.heap.size ∧ k ≠ s.mb ∧ k ≠ g := by
      intro k hk
      have hlo := hown.lt k hk
      have ht : ∃ cells, wr.heap[k]? = some (.cells cells 5 (0, 0)) := own_typed hown k hk
      obtain ⟨cells, ht⟩ := ht
      exact ⟨fun e => by subst e; exact Blk.ne (t := 5) (t' := 40) ht hI.box (by decide) rfl, fun e => by subst e; exact hI.map.ne_blk ht rfl, fun e => by subst e; exact Blk.ne (t := 5) (t' := 142) ht hBg (by decide) rfl⟩
    have hle : n + x.p.bytes.length ≤ 1000000000 := by
      have h1 := flat_le l i hilt
      rw [← hI.len, ← HXE.out] at h1
      omega
    have HnA := Lib.hid hnA
    clear hnA
    have hrowk : ∀ k, (Value.slice s.rowA s.row.length s.rowc).ownBlock = some k → k < w.heap.size ∧ k ≠ s.mb ∧ ∃ cells, w.heap[k]? = some (.cells cells 40 (0, 0)) := by
      intro k hk
      obtain ⟨_, cells, ht⟩ := q_typed hr.inn.row k hk
      exact ⟨q_lt hr.inn.row k hk, fun e => by subst e; exact hm.ne_blk ht rfl, cells, ht⟩
    have Hrowk := Lib.hid hrowk
    clear hrowk
    by_cases hend : i + 1 = l.length
    · have ht : (((first + (i : Int)) % 4294967296) == last) = true := by
        rw [beq_iff_eq, ← hc.tsn i hilt, ← hla]
        congr 3
        omega
      have Hend := Lib.hid hend
      clear hend
      go_wp2_with fail
      go_still_tail 10, (by kernel_rfl)
      go_wp2_with (at_builtin; refine wpList_append_lies _ rfl (.tmp 30) (.tmp 38) 31 rfl w.heap.size 5 i8 (.int .u8 0) 1 1 Try.underlying31 hi8 hz8 hsz8 hby8 rfl (by decide) (.slice A n c) n _ rfl hown ⟨x.blk, 0, none⟩ x.p.bytes.length x.cap (nums .u8 x.p.bytes) rfl (by simp [nums]) hbr.cells (nums_one _ _) hpos (by simp only [maxLen]; omega) (by omega) hI.fr.size _ rfl ?_; intro g1 cap1 w1 hown1 hgrow1 hat1 hlt1; have hBb := hI.box.grown (grown_drew hgrow1) (fun e => (HnA.out _ e.symm).1 rfl); have cb1 := hBb.cell; have fb1 := hBb.frozen; have lb1 := hBb.lt; have lb1s := hBb.lts; have hm1 := hI.map.grown (grown_drew hgrow1) (fun e => (HnA.out _ e.symm).2.1 rfl); have hm1l := hm1.lt; have hm1ls := hm1.lts; have hBg1 := hBg.grown (grown_drew hgrow1) (fun e => (HnA.out _ e.symm).2.2 rfl); have cg1 := hBg1.cell; have hg1l := hBg1.lt; have hg1ls := hBg1.lts; unfold gcells at cg1)
      go_wp2_with fail
      generalize hW6 : setMap (w1.setCell ⟨w.heap.size, 2, none⟩ (.slice (some ⟨g1, 0, none⟩) (n + x.p.bytes.length) cap1)) s.mb (ents (List.map Pe.en (dropP s.L (l.take (i + 1))))) s.clk = W6
      have hR := hI.step hilt HXE.out hown1 (grown_drew hgrow1) hW6.symm
      rw [Hend.out] at hR
      clear hW6 hown1 hgrow1 hat1 hlt1 hBb cb1 fb1 lb1 lb1s hm1 hm1l hm1ls hBg1 cg1 hg1l hg1ls hrun2 hdel HFX cb fb lb lbs hmr hmrl hmrls hBg cgr hgr hgrs hown HnA hbr ht hI
      have hB6 : Blk W6 g _ _ := hr.blk.fr hR.fr (fun e => hmb e.symm)
      have c6 := hB6.cell
      have l6 := hB6.lt
      have l6s := hB6.lts
      unfold gcells at c6
      have cb6 := hR.box.cell
      have lb6 := hR.box.lt
      have lb6s := hR.box.lts
      have HQ6 : QRow W6 0 40 3 _ _ _ := q_move hr.inn.row (fun k hk => hR.fr.block k (Hrowk.out k hk).1 (Hrowk.out k hk).2.1)
      have hs6 := hR.fr.size
      obtain ⟨i40, hi40, hz40, hsz40, hby40⟩ := info_parts info_msg
      have hgrw : ∀ k, (Value.slice s.rowA s.row.length s.rowc).ownBlock = some k → k ≠ g := by
        intro k hk e
        subst e
        obtain ⟨_, _, cells, ht⟩ := Hrowk.out k hk
        exact Blk.ne (t := 40) (t' := 142) ht hr.blk (by decide) rfl
      have Hgrw := Lib.hid hgrw
      have HR := Lib.hid hR
      clear hgrw hR hbne hby
      go_region_law (refine step_append_q _ rfl (.tmp 53) (.tmp 55) 54 rfl 0 40 i40 (.agg #[.int .u16 0, .bool false, .slice none 0 0]) 3 32 Try.underlying54 hi40 hz40 hsz40 hby40 rfl (by decide) (.slice s.rowA s.row.length s.rowc) s.row.length _ rfl (q_alloc HQ6 (.cells #[.int .u16 p0.p.stream, .bool (!p0.p.un), .slice (some ⟨g1, 0, none⟩) (n + x.p.bytes.length) cap1] 40)) ⟨W6.heap.size, 0, none⟩ 1 1 [.int .u16 p0.p.stream, .bool (!p0.p.un), .slice (some ⟨g1, 0, none⟩) (n + x.p.bytes.length) cap1] rfl rfl (news_blk (Blk.new W6 _ _)) (by simp [Value.oneCell']) (by decide) (by simp only [maxLen]; omega) (by omega) (Nat.zero_le _) ?_; intro A' c' w2 hq2 hgrow2 hat2; have hB2 := (hB6.alloc (.cells #[.int .u16 p0.p.stream, .bool (!p0.p.un), .slice (some ⟨g1, 0, none⟩) (n + x.p.bytes.length) cap1] 40)).grown (grown_drew hgrow2) (fun e => Hgrw.out g e.symm rfl); have c2 := hB2.cell; have f2 := hB2.frozen; have l2 := hB2.lt; have l2s := hB2.lts; unfold gcells at c2)
      all_goals
        go_wp2_with fail
        go_end0
        exact ⟨rfl, _, ready_close hr hc HP.out HR.out hq2 (grown_drew hgrow2) hat2, readyGs_abs _ _ _ _ _ _, rfl, rfl, rfl, rfl, rfl, rfl⟩
    · have ht : (((first + (i : Int)) % 4294967296) == last) = false := by
        rw [beq_eq_false_iff_ne, ← hc.tsn i hilt, ← hla, hc.tsn _ hilt, hc.tsn _ (by have := hilt; omega)]
        have := hc.len
        have := hilt
        omega
      go_wp2_with fail
      go_still_tail 10, (by kernel_rfl)
      go_wp2_with (at_builtin; refine wpList_append_lies _ rfl (.tmp 30) (.tmp 38) 31 rfl w.heap.size 5 i8 (.int .u8 0) 1 1 Try.underlying31 hi8 hz8 hsz8 hby8 rfl (by decide) (.slice A n c) n _ rfl hown ⟨x.blk, 0, none⟩ x.p.bytes.length x.cap (nums .u8 x.p.bytes) rfl (by simp [nums]) hbr.cells (nums_one _ _) hpos (by simp only [maxLen]; omega) (by omega) hI.fr.size _ rfl ?_; intro g1 cap1 w1 hown1 hgrow1 hat1 hlt1; have hBb := hI.box.grown (grown_drew hgrow1) (fun e => (HnA.out _ e.symm).1 rfl); have cb1 := hBb.cell; have fb1 := hBb.frozen; have lb1 := hBb.lt; have lb1s := hBb.lts; have hm1 := hI.map.grown (grown_drew hgrow1) (fun e => (HnA.out _ e.symm).2.1 rfl); have hm1l := hm1.lt; have hm1ls := hm1.lts; have hBg1 := hBg.grown (grown_drew hgrow1) (fun e => (HnA.out _ e.symm).2.2 rfl); have cg1 := hBg1.cell; have hg1l := hBg1.lt; have hg1ls := hBg1.lts; unfold gcells at cg1)
      go_wp2_with fail
      go_roundg (l.length - (i + 1))
      case measure =>
        have := HK.out
        have := hilt
        omega
      case rel =>
        refine ⟨i + 1, some ⟨g1, 0, none⟩, n + x.p.bytes.length, cap1, rfl, by omega, ?_, hI.step hilt HXE.out hown1 (grown_drew hgrow1) rfl⟩
        congr 1
        omega
end Go.Proofs.Ytpkbckkminmdmaa
