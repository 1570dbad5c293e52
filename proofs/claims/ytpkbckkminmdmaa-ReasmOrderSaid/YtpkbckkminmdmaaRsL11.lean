/- The walk of ReasmSoon. -/
import Derived.Test.YtpkbckkminmdmaaRsL10
import Derived.Laws.MakeOwn
namespace Go.Proofs.Ytpkbckkminmdmaa
open Go.RowKit Go.Proofs.YtpkbckkminmdmaaW.PrintWords Go.Proofs.YtpkbckkminmdmaaW.PrintMore
attribute [local go_sem] alloc_drewN setCell_drewN isMap_alloc isMap_drew isMap_drewN isMap_setCell cell_setMap frozen_setMap setMap_drew setMap_drewN size_setMap field_piece0 field_data1 field_data3 field_data6

theorem drow_get : ∀ (l : List Dp) (p j : Nat) (hp : p < l.length), j < 7 → (drow l)[p * 7 + j]? = (dcells l[p].p l[p].A l[p].c)[j]?
  | d :: l, 0, j, _, hj => by
    have : (drow (d :: l)) = (dcells d.p d.A d.c).toList ++ drow l := by unfold drow; rw [List.flatMap_cons]
    rw [this, List.getElem?_append_left (by show 0 * 7 + j < 7; omega), Nat.zero_mul, Nat.zero_add, Array.getElem?_toList]
    rfl
  | d :: l, p + 1, j, hp, hj => by
    have : (drow (d :: l)) = (dcells d.p d.A d.c).toList ++ drow l := by unfold drow; rw [List.flatMap_cons]
    rw [this, List.getElem?_append_right (by show 7 ≤ _; omega)]
    have := drow_get l p j (by simpa using hp) hj
    rw [show (p + 1) * 7 + j - (dcells d.p d.A d.c).toList.length = p * 7 + j by show (p + 1) * 7 + j - 7 = _; omega, this]
    rfl
theorem mrow_get : ∀ (l : List Mp) (p j : Nat) (hp : p < l.length), j < 3 → (mrow l)[p * 3 + j]? = ([.int .u16 l[p].m.stream, .bool l[p].m.ord, .slice l[p].A l[p].m.bytes.length l[p].c] : List Value)[j]?
  | d :: l, 0, j, _, hj => by
    have : (mrow (d :: l)) = [.int .u16 d.m.stream, .bool d.m.ord, .slice d.A d.m.bytes.length d.c] ++ mrow l := by unfold mrow; rw [List.flatMap_cons]
    rw [this, List.getElem?_append_left (by show 0 * 3 + j < 3; omega), Nat.zero_mul, Nat.zero_add]
    rfl
  | d :: l, p + 1, j, hp, hj => by
    have : (mrow (d :: l)) = [.int .u16 d.m.stream, .bool d.m.ord, .slice d.A d.m.bytes.length d.c] ++ mrow l := by unfold mrow; rw [List.flatMap_cons]
    rw [this, List.getElem?_append_right (by show 3 ≤ _; omega)]
    have := mrow_get l p j (by simpa using hp) hj
    rw [show (p + 1) * 3 + j - ([.int .u16 d.m.stream, .bool d.m.ord, .slice d.A d.m.bytes.length d.c] : List Value).length = p * 3 + j by show (p + 1) * 3 + j - 3 = _; omega, this]
    rfl
/-- The rows of pieces and of messages, read. -/
structure DRead (w : World) (g : Nat) (l : List Dp) : Prop where
  lt : g < w.heap.size
  at_ : ∀ p (hp : p < l.length) j, j < 7 → w.cell? ⟨g, p * 7 + j, none⟩ = (dcells l[p].p l[p].A l[p].c)[j]?
structure MRead (w : World) (g : Nat) (l : List Mp) : Prop where
  lt : g < w.heap.size
  at_ : ∀ p (hp : p < l.length) j, j < 3 → w.cell? ⟨g, p * 3 + j, none⟩ = ([.int .u16 l[p].m.stream, .bool l[p].m.ord, .slice l[p].A l[p].m.bytes.length l[p].c] : List Value)[j]?
theorem DRead.fr {w w' : World} {g : Nat} {l : List Dp} {S : Nat → Prop} (h : DRead w g l) (hf : Fr S w w') (hS : ¬ S g) : DRead w' g l := ⟨hf.lt_of h.lt, fun p hp j hj => (hf.cell (a := ⟨g, p * 7 + j, none⟩) h.lt hS).trans (h.at_ p hp j hj)⟩
theorem MRead.fr {w w' : World} {g : Nat} {l : List Mp} {S : Nat → Prop} (h : MRead w g l) (hf : Fr S w w') (hS : ¬ S g) : MRead w' g l := ⟨hf.lt_of h.lt, fun p hp j hj => (hf.cell (a := ⟨g, p * 3 + j, none⟩) h.lt hS).trans (h.at_ p hp j hj)⟩
theorem dread_of {w : World} {base c : Nat} {A : Option Addr} {l : List Dp} (h : w.ownsRow base 33 7 (.slice A l.length c) l.length (drow l)) (hp : 0 < l.length) : ∃ g, A = some ⟨g, 0, none⟩ ∧ DRead w g l := by
  rcases h.2 with ⟨_, hn⟩ | ⟨g, cap, cur, hv, hg, hb, _⟩
  · omega
  · injection hv with a b c
    subst a
    refine ⟨g, rfl, blk_lt hb, fun p hp j hj => ?_⟩
    obtain ⟨u, hu⟩ : ∃ u, (drow l)[p * 7 + j]? = some u := by
      rw [drow_get l p j hp hj]
      exact ⟨_, Array.getElem?_eq_getElem (by show j < 7; exact hj)⟩
    have := h.cells (g := g) rfl _ u hu
    rw [add_plain] at this
    rw [this, ← hu, drow_get l p j hp hj]
theorem mread_of {w : World} {base c : Nat} {A : Option Addr} {l : List Mp} (h : w.ownsRow base 40 3 (.slice A l.length c) l.length (mrow l)) (hp : 0 < l.length) : ∃ g, A = some ⟨g, 0, none⟩ ∧ MRead w g l := by
  rcases h.2 with ⟨_, hn⟩ | ⟨g, cap, cur, hv, hg, hb, _⟩
  · omega
  · injection hv with a b c
    subst a
    refine ⟨g, rfl, blk_lt hb, fun p hp j hj => ?_⟩
    obtain ⟨u, hu⟩ : ∃ u, (mrow l)[p * 3 + j]? = some u := by
      rw [mrow_get l p j hp hj]
      exact ⟨_, List.getElem?_eq_getElem (by show j < 3; exact hj)⟩
    have := h.cells (g := g) rfl _ u hu
    rw [add_plain] at this
    rw [this, ← hu, mrow_get l p j hp hj]
theorem info_int : (Try.prog.info? 3).map (fun i => (i.zero, i.size, i.bytes)) = some (some (.int .i64 0), 1, 8) := by kernel_rfl
theorem made64 (n : Nat) : madeCells #[Value.int .i64 0] n = (nums .i64 (List.replicate n 0)).toArray := by
  apply Array.toList_inj.1
  simp only [madeCells, nums, Array.toList_map, Array.toList_range, List.map_replicate]
  refine Eq.trans (List.map_congr_left (g := fun _ => Value.int .i64 0) (fun x _ => ?_)) (by rw [List.map_const', List.length_range])
  rw [show x % #[Value.int IntKind.i64 0].size = 0 from Nat.mod_one x]
  rfl
theorem make_ints (m : Nat) (hm : m ≤ 1000) : ∀ W : World, (Instr.makeSlice 57 (.int .i64 (m : Int)) (.int .i64 (m : Int))).run Try.prog W = .ok (.slice (some ⟨W.heap.size, 0, none⟩) m m) (W.alloc (.cells (nums .i64 (List.replicate m 0)).toArray 3)) := fun W => by
  have := print_make (P := Try.prog) 57 3 .i64 8 Try.underlying57 info_int (by decide) m (by omega) W
  rwa [made64] at this
theorem nums_at (k : IntKind) (l : List Int) (i : Nat) (x : Int) (h : l[i]? = some x) : (nums k l).toArray[i]? = some (.int k x) := by
  rw [List.getElem?_toArray]
  unfold nums
  rw [List.getElem?_map, h]
  rfl
theorem cuts_ssn {first : Int} {l : List Rs.Sn} {n : Nat} (hn : n ≤ 80) : ∀ x ∈ (Rs.cutsN first l n).flatten, 0 ≤ x.ssn ∧ x.ssn < 65536 := fun x hx => by
  obtain ⟨j, hj⟩ := Rs.flat_gr hx
  have hl : j < n := by have := Rs.gr_lt hj; rwa [Rs.cutsN_len] at this
  rw [Rs.cutsN_get hl] at hj
  obtain ⟨k, hk, rfl⟩ := Rs.cutOne_mem hj
  have := ordN_le l ((l.getD j Rs.zSn).stream % 4) j
  show 0 ≤ (if (l.getD j Rs.zSn).un = true then (0 : Int) else _) ∧ (if (l.getD j Rs.zSn).un = true then (0 : Int) else _) < 65536
  split <;> omega
theorem fineB_zero (left : List Int) (G : List (List Rs.Pc)) (m : Nat) : Rs.fineB left G m 0 = (left.getD m 0 == 0) := by
  unfold Rs.fineB
  simp
theorem msg_at {mps : List Mp} {G : List (List Rs.Pc)} (h : mps.map (·.m) = G.map Rs.msgOf) (m : Nat) (hm : m < mps.length) : mps[m].m = Rs.msgOf (Rs.gr G m) := by
  have h1 : (mps.map (·.m))[m]? = (G.map Rs.msgOf)[m]? := by rw [h]
  have hG : m < G.length := by
    have := congrArg List.length h
    rw [List.length_map, List.length_map] at this
    omega
  rw [List.getElem?_map, List.getElem?_map, List.getElem?_eq_getElem hm, List.getElem?_eq_getElem hG] at h1
  injection h1 with h1
  unfold Rs.gr
  rw [List.getD_eq_getElem?_getD, List.getElem?_eq_getElem hG]
  exact h1
theorem ownL_set (G : List (List Rs.Pc)) (N i : Nat) (hi : i < N) : ((List.range N).map fun p => if p < i then (Rs.gidx G p : Int) else 0).set i (Rs.gidx G i : Int) = (List.range N).map fun p => if p < i + 1 then (Rs.gidx G p : Int) else 0 := by
  apply List.ext_getElem?
  intro q
  rw [List.getElem?_set, List.getElem?_map, List.getElem?_map]
  by_cases hq : q < N
  · rw [List.getElem?_range hq]
    by_cases e : i = q
    · subst e
      rw [if_pos rfl, if_pos (by simpa using hi)]
      simp
    · rw [if_neg e]
      simp only [Option.map_some]
      by_cases h : q < i
      · rw [if_pos h, if_pos (by omega)]
      · rw [if_neg h, if_neg (by omega)]
  · rw [List.getElem?_eq_none (by simp; omega)]
    by_cases e : i = q
    · omega
    · rw [if_neg e]
      rfl
theorem held_put2 {s : Gs} (hok : s.Ok) (hL : Lim s) {d : Rs.Pc} (ht0 : 0 ≤ d.tsn) (ht1 : d.tsn < 4294967296) (hc : (Rs.put s.abs d).2 = 0) : Rs.held (Rs.put s.abs d).1 = Rs.held s.abs + d.bytes.length := by
  obtain ⟨a1, a2, a3, a4⟩ := Rs.put_taken hc
  have hf := hok.fine hL
  have hfd : Rs.Fine (s.abs.L ++ [d]) := by
    refine ⟨?_, ?_, ?_⟩
    · rw [List.map_append, List.nodup_append]
      refine ⟨hf.keys, by simp, fun a ha b hb e => ?_⟩
      rw [show List.map (fun x => x.tsn) [d] = [d.tsn] from rfl, List.mem_singleton] at hb
      obtain ⟨x, hx, hxe⟩ := List.mem_map.1 ha
      have := Rs.get_of_mem hf.keys hx
      rw [hxe, e, hb, a4] at this
      cases this
    · intro x hx
      rcases List.mem_append.1 hx with hx | hx
      · exact hf.rng x hx
      · rw [List.mem_singleton.1 hx]
        exact ⟨ht0, ht1⟩
    · have h2 := hL.L hok
      have h3 : s.abs.L.length = s.L.length := by show (s.L.map (·.p)).length = _; rw [List.length_map]
      rw [List.length_append, h3]
      simp
      omega
  have := Rs.put_held hfd
  rw [if_pos hc] at this
  exact this
theorem blk_nums {w : World} {g : Nat} {t : TypeId} {k : IntKind} {l l' : List Int} (h : Blk w g t (nums k l).toArray) (i : Nat) (x : Int) (e : l.set i x = l') : Blk (w.setCell ⟨g, i, none⟩ (.int k x)) g t (nums k l').toArray := by
  have := h.set i (.int k x)
  rwa [nums_set, e] at this
set_option maxRecDepth 100000 in
set_option maxHeartbeats 8000000 in
theorem soon_walk (first : Int) (A0 : Option Addr) (c0 : Nat) (l : List Rs.Sn) (A1 : Option Addr) (c1 : Nat) (o : List Int) (w : World) (hf : (Lit.int .u32 first).wf = true) (hC : kSn.C w A0 l.length l) (_hc : l.length ≤ c0) (hq : (∀ x ∈ l, QSn x) ∧ l.length * Try.prog.bytesOf 148 ≤ reachBytes)
    (hC1 : (Kd.int .u8).C w A1 o.length o) (hc1 : o.length ≤ c1) (ho : ∀ x ∈ o, (Lit.int .u8 x).wf = true) :
    Calls Try.prog 6 #[.int .u32 first, .slice A0 l.length c0, .slice A1 o.length c1] w (Same0 (.bool true) w) := by
  by_cases hbig : 80 < l.length ∨ 80 < o.length
  · by_cases h1 : 80 < l.length
    · have b1 : decide (80 < (l.length : Int)) = true := decide_eq_true (by omega)
      clear hbig h1
      go_enter Try.func6, Try.ntmps6
      go_wp2_with (go_at_call 27; refine (works_any _).mono ?_; rintro e w2 ⟨rfl, hf2⟩)
      go_ret
      exact ⟨rfl, Fr.trans (S := fun _ => False) (by repeat (first | (with_reducible exact Fr.refl _ _) | (with_reducible refine Fr.drewN ?_ _) | (with_reducible refine Fr.drew ?_) | (with_reducible refine Fr.alloc ?_ _))) hf2⟩
    · have b1 : decide (80 < (l.length : Int)) = false := decide_eq_false (by omega)
      have b2 : decide (80 < (o.length : Int)) = true := decide_eq_true (by omega)
      clear hbig h1
      go_enter Try.func6, Try.ntmps6
      go_wp2_with (go_at_call 27; refine (works_any _).mono ?_; rintro e w2 ⟨rfl, hf2⟩)
      go_ret
      exact ⟨rfl, Fr.trans (S := fun _ => False) (by repeat (first | (with_reducible exact Fr.refl _ _) | (with_reducible refine Fr.drewN ?_ _) | (with_reducible refine Fr.drew ?_) | (with_reducible refine Fr.alloc ?_ _))) hf2⟩
  · have b1 : decide (80 < (l.length : Int)) = false := decide_eq_false (by omega)
    have b2 : decide (80 < (o.length : Int)) = false := decide_eq_false (by omega)
    obtain ⟨hf0, hf1⟩ := in_u32 hf
    have hpc := pieces_any first A0 c0 l w hf0 hf1 hC (by omega) hq.1
    have HPC := Lib.hid hpc
    have hl80 : l.length ≤ 80 := by omega
    clear hpc hbig
    go_enter Try.func6, Try.ntmps6
    go_wp2_with fail
    go_at_call 39
    refine HPC.out.mono ?_
    clear HPC
    rintro e w1 (⟨rfl, hF1⟩ | ⟨A, c, B, d, dps, mps, rfl, hF1, hO, hM, hdp, hmp, hg, hdb, hmb⟩)
    · go_wp2_with (go_at_call 27; refine (works_any _).mono ?_; rintro e w2 ⟨rfl, hf2⟩)
      go_ret
      exact ⟨rfl, hF1.trans hf2⟩
    · by_cases hz : dps.length = 0
      · have bz : ((dps.length : Int) == 0) = true := beq_iff_eq.2 (by omega)
        clear hz
        go_wp2_with (go_at_call 27; refine (works_any _).mono ?_; rintro e w2 ⟨rfl, hf2⟩)
        go_ret
        exact ⟨rfl, hF1.trans hf2⟩
      · have bz : ((dps.length : Int) == 0) = false := beq_eq_false_iff_ne.2 (by omega)
        have hN0 : 0 < dps.length := by omega
        clear hz
        have hcut := Rs.cuts_ok (first := first) hg
        have hdl : (Rs.cutsN first l l.length).flatten.length = dps.length := by rw [← hdp, List.length_map]
        have hml : (Rs.cutsN first l l.length).length = mps.length := by
          have := congrArg List.length hmp
          rw [List.length_map, List.length_map] at this
          exact this.symm
        have hdl100 : dps.length ≤ 100 := by have := Rs.flat_len (first := first) (l := l) l.length; have := hg.few; omega
        have hml80 : mps.length ≤ 80 := by rw [← hml, Rs.cutsN_len]; exact hl80
        have hssn := cuts_ssn (first := first) (l := l) hl80
        generalize Rs.cutsN first l l.length = G at *
        have HSSN := Lib.hid hssn
        clear hssn
        have hm0 : 0 < mps.length := by
          rcases Nat.eq_zero_or_pos mps.length with h | h
          · rw [h] at hml
            rw [List.length_eq_zero_iff.1 hml] at hdl
            simp at hdl
            omega
          · exact h
        obtain ⟨gD, rfl, hD⟩ := dread_of hO hN0
        obtain ⟨gM, rfl, hMr⟩ := mread_of hM hm0
        have hnew := new_good 4 w1 (by decide) (by decide)
        have HDP := Lib.hid hdp
        have HMP := Lib.hid hmp
        have HDL := Lib.hid hdl
        have HML := Lib.hid hml
        have HDB := Lib.hid hdb
        have HC := Lib.hid hcut
        clear hO hM hdp hmp hdl hml hdb hmb hcut hg b1 b2
        go_wp2_with (go_at_call 28; refine hnew.mono ?_; clear hnew; rintro e w2 ⟨g, mb, nb, rfl, hr0, hF2, hft0⟩)
        go_at_call 40
        have hbel2 : Below w.heap.size w w2 := (hF1.trans hF2).below (Nat.le_refl _) (fun _ h => h.elim)
        refine (turned_any dps.length hdl100 A1 c1 o w2 (Kd.C_below hC1 hbel2) hc1 (fun x hx => in_u8 (ho x hx))).mono ?_
        rintro e w3 ⟨At, ct, at_, rfl, hperm, hCt, hF3, hAt⟩
        have hatl : at_.length = dps.length := by rw [hperm.length_eq, List.length_range]
        have mk1 := make_ints mps.length (by omega)
        have mk2 := make_ints dps.length (by omega)
        have HP := Lib.hid hperm
        have HATL := Lib.hid hatl
        clear hperm hatl
        go_wp2_with fail
        have F13 : Fr (fun _ => False) w1 w3 := hF2.trans hF3
        have F34 : Fr (fun _ => False) w3 ((w3.alloc (.cells (nums .i64 (List.replicate mps.length 0)).toArray 3)).alloc (.cells (nums .i64 (List.replicate dps.length 0)).toArray 3)) := (by repeat (first | (with_reducible exact Fr.refl _ _) | (with_reducible refine Fr.drewN ?_ _) | (with_reducible refine Fr.drew ?_) | (with_reducible refine Fr.alloc ?_ _)))
        have hD4 := (hD.fr F13 (fun h => h)).fr F34 (fun h => h)
        have hM4 := (hMr.fr F13 (fun h => h)).fr F34 (fun h => h)
        have hr4 := (hr0.fr0 hF3).fr0 F34
        have hCt4 := Kd.C_below hCt (F34.below (Nat.le_refl _) (fun _ h => h.elim))
        have hbL := (Blk.new w3 3 (nums .i64 (List.replicate mps.length 0)).toArray).alloc (.cells (nums .i64 (List.replicate dps.length 0)).toArray 3)
        have hbO := Blk.newAt (w3.alloc (.cells (nums .i64 (List.replicate mps.length 0)).toArray 3)) 3 (nums .i64 (List.replicate dps.length 0)).toArray (w3.heap.size + 1) (by simp)
        have F14 : Fr (fun _ => False) w ((w3.alloc (.cells (nums .i64 (List.replicate mps.length 0)).toArray 3)).alloc (.cells (nums .i64 (List.replicate dps.length 0)).toArray 3)) := (hF1.trans F13).trans F34
        have F1W : Fr (fun _ => False) w1 ((w3.alloc (.cells (nums .i64 (List.replicate mps.length 0)).toArray 3)).alloc (.cells (nums .i64 (List.replicate dps.length 0)).toArray 3)) := F13.trans F34
        have hfoot : ∀ k, Foot g (newGs mb nb 4) k → w1.heap.size ≤ k ∧ k < w2.heap.size := fun k hk => ⟨hft0 k hk, hr0.foot_lt hk⟩
        have hgD : gD < w1.heap.size := hD.lt
        have hgM : gM < w1.heap.size := hMr.lt
        have hs12 : w1.heap.size ≤ w2.heap.size := hF2.size
        have hs23 : w2.heap.size ≤ w3.heap.size := hF3.size
        have hw1 : w.heap.size ≤ w1.heap.size := hF1.size
        obtain ⟨adt, hadt, _⟩ := int_at hCt (0 : Nat) (by rw [HATL.out]; exact hN0)
        subst hadt
        have hadt2 : w2.heap.size ≤ adt.block := hAt adt rfl
        have hadt3 : adt.block < w3.heap.size := by
          obtain ⟨ad', e', hc'⟩ := int_at hCt (0 : Nat) (by rw [HATL.out]; exact hN0)
          injection e' with e'
          subst e'
          have := World.block_lt_of_cell? w3 _ hc'
          rwa [block_of_add] at this
        have hat : ∀ i (hi : i < at_.length), ((w3.alloc (.cells (nums .i64 (List.replicate mps.length 0)).toArray 3)).alloc (.cells (nums .i64 (List.replicate dps.length 0)).toArray 3)).cell? (adt.add i) = some (.int .i64 (at_[i] : Int)) := fun i hi => by
          obtain ⟨ad', e', hc'⟩ := int_at hCt4 i hi
          injection e' with e'
          subst e'
          exact hc'
        generalize (w3.alloc (.cells (nums .i64 (List.replicate mps.length 0)).toArray 3)).alloc (.cells (nums .i64 (List.replicate dps.length 0)).toArray 3) = W4 at *
        have HAT := Lib.hid hat
        clear hat hCt4 hCt hD hMr hr0 hF2 hF3 F13 F34 hAt mk1 mk2 hft0 hbel2 hF1
        go_loopg [14, 15] dps.length (fun k v14 v15 wr => ∃ i : Nat, v14 = .int .i64 (Rs.gidx G i) ∧ v15 = .int .i64 i ∧ i ≤ dps.length ∧ k = dps.length - i ∧ Fr (fun b => b = w3.heap.size ∨ b = w3.heap.size + 1) W4 wr ∧
          Blk wr w3.heap.size 3 (nums .i64 (Rs.leftOf G (List.range i))).toArray ∧ Blk wr (w3.heap.size + 1) 3 (nums .i64 ((List.range dps.length).map fun p => if p < i then (Rs.gidx G p : Int) else 0)).toArray)
        case atStart =>
          refine ⟨0, by rw [Rs.gidx_zero (fun x hx => by obtain ⟨f, hr⟩ := HC.out.run x hx; exact hr.pos)]; rfl, rfl, Nat.zero_le _, rfl, Fr.refl _ _, ?_, ?_⟩
          · rw [List.range_zero, Rs.leftOf_nil, HML.out]
            exact hbL
          · have : ((List.range dps.length).map fun p => if p < 0 then (Rs.gidx G p : Int) else 0) = List.replicate dps.length 0 := by
              simp only [Nat.not_lt_zero, if_false]
              rw [List.map_const', List.length_range]
            rw [this]
            exact hbO
        case round =>
          obtain ⟨i, rfl, rfl, hi, hk, hF, hL, hOw⟩ := hrel
          have HK := Lib.hid hk
          clear hk
          by_cases hlt : i < dps.length
          · have hd1 : decide ((i : Int) < dps.length) = true := decide_eq_true (by omega)
            have hget : G.flatten[i]? = some dps[i].p := by rw [← HDP.out, List.getElem?_map, List.getElem?_eq_getElem hlt]; rfl
            obtain ⟨s1, s2, s3⟩ := Rs.gidx_step HC.out.run i _ hget
            have hDr := hD4.fr hF (by omega)
            have cla : wr.cell? ⟨gD, i * 7 + 5, none⟩ = some (.bool dps[i].p.la) := hDr.at_ i hlt 5 (by decide)
            have hgl := hDr.lt
            have cL : wr.cell? ⟨w3.heap.size, Rs.gidx G i, none⟩ = some (.int .i64 ((((List.range i).filter fun q => Rs.gidx G q == Rs.gidx G i).length : Nat) : Int)) := (hL.cell _).trans (nums_at _ _ _ _ (Rs.leftOf_get s1))
            have hcnt : ((List.range i).filter fun q => Rs.gidx G q == Rs.gidx G i).length ≤ i := Nat.le_trans (List.length_filter_le _ _) (by simp)
            have cO : wr.cell? ⟨w3.heap.size + 1, i, none⟩ = some (.int .i64 0) := (hOw.cell _).trans (nums_at _ _ _ _ (by rw [List.getElem?_map, List.getElem?_range hlt]; simp))
            have lL := hL.lt
            have mL := hL.lts
            have fL := hL.frozen
            have lO := hOw.lt
            have mO := hOw.lts
            have fO := hOw.frozen
            rw [HML.out] at s1
            generalize hx : ((List.range i).filter fun q => Rs.gidx G q == Rs.gidx G i).length = x at cL hcnt
            generalize hj : Rs.gidx G i = j at *
            generalize hla : dps[i].p.la = la at *
            have HX := Lib.hid hx
            have HJ := Lib.hid hj
            have HLA := Lib.hid hla
            have HS3 := Lib.hid s3
            clear hx hj hla s3 hget s2
            cases la with
            | true =>
              go_wp2_with fail
              go_roundg (dps.length - (i + 1))
              case measure => rw [HK.out]; omega
              case rel => exact ⟨i + 1, by rw [HS3.out]; rfl, rfl, hlt, rfl, (hF.setAt (.inl (.inr rfl))).setAt (.inl (.inl rfl)), blk_nums (hL.far (p := ⟨w3.heap.size + 1, i, none⟩) (by show w3.heap.size ≠ w3.heap.size + 1; omega) _) j _ (by rw [List.range_succ, Rs.leftOf_snoc, HJ.out, HX.out]), (blk_nums hOw i _ (by rw [← HJ.out]; exact ownL_set G dps.length i hlt)).far (p := ⟨w3.heap.size, j, none⟩) (by show w3.heap.size + 1 ≠ w3.heap.size; omega) _⟩
            | false =>
              go_wp2_with fail
              go_roundg (dps.length - (i + 1))
              case measure => rw [HK.out]; omega
              case rel => exact ⟨i + 1, by rw [HS3.out]; rfl, rfl, hlt, rfl, (hF.setAt (.inl (.inr rfl))).setAt (.inl (.inl rfl)), blk_nums (hL.far (p := ⟨w3.heap.size + 1, i, none⟩) (by show w3.heap.size ≠ w3.heap.size + 1; omega) _) j _ (by rw [List.range_succ, Rs.leftOf_snoc, HJ.out, HX.out]), (blk_nums hOw i _ (by rw [← HJ.out]; exact ownL_set G dps.length i hlt)).far (p := ⟨w3.heap.size, j, none⟩) (by show w3.heap.size + 1 ≠ w3.heap.size; omega) _⟩
          · have hd1 : decide ((i : Int) < dps.length) = false := decide_eq_false (by omega)
            obtain rfl : i = dps.length := by omega
            go_wp2_with fail
            obtain ⟨W5, rfl⟩ : ∃ W5, W5 = wr := ⟨wr, rfl⟩
            have hOwn : ∀ q (hq : q < dps.length), W5.cell? ⟨w3.heap.size + 1, q, none⟩ = some (.int .i64 (Rs.gidx G q)) := fun q hq => (hOw.cell _).trans (nums_at _ _ _ _ (by rw [List.getElem?_map, List.getElem?_range hq]; simp [hq]))
            have hLp : Rs.leftOf G (List.range dps.length) = Rs.leftOf G at_ := Rs.leftOf_perm HP.out.symm
            rw [hLp] at hL
            have hD5 := hD4.fr hF (by omega)
            have hM5 := hM4.fr hF (by omega)
            have hr5 := hr4.fr hF (fun k hk h => by have := hfoot k hk; omega)
            have hat5 : ∀ i (hi : i < at_.length), W5.cell? (adt.add i) = some (.int .i64 (at_[i] : Int)) := fun i hi => by
              have h1 := HAT.out i hi
              have hb := block_of_add adt i
              exact (hF.cell (by rw [hb]; have := World.block_lt_of_cell? W4 _ h1; rwa [hb] at this) (by rw [hb]; omega)).trans h1
            have F15 : Fr (fun _ => False) w1 W5 := F1W.then hF (fun k hk => .inr (by omega))
            have F05 : Fr (fun _ => False) w W5 := F14.then hF (fun k hk => .inr (by omega))
            have hOl : w3.heap.size + 1 < W5.heap.size := hOw.lt
            have hal5 : adt.block < W5.heap.size := by omega
            have HAT5 := Lib.hid hat5
            have HOWN := Lib.hid hOwn
            have hnx : ∀ b, (b = gD ∨ b = gM ∨ b = adt.block ∨ b = w3.heap.size + 1) → ¬ (b = w3.heap.size ∨ Foot g (newGs mb nb 4) b) := fun b hb h => by
              rcases h with h | h
              · omega
              · have := hfoot b h; omega
            clear HK HAT hat5 hOwn hF hOw F1W F14 hr4 hD4 hM4 hbL hbO hLp hi hlt
            go_loopg [16] dps.length (fun k v16 wr2 => ∃ (i : Nat) (s : Gs) (H : List Nat), v16 = .int .i64 i ∧ i ≤ dps.length ∧ k = dps.length - i ∧ RsAt wr2 g s (Rs.held s.abs) ∧ Rs.Inv G (Rs.pcsAt G (at_.take i)) s.abs H [] ∧ Fr (fun b => b = w3.heap.size ∨ Foot g (newGs mb nb 4) b) W5 wr2 ∧
              (∀ k, Foot g s k → Foot g (newGs mb nb 4) k ∨ W5.heap.size ≤ k) ∧ Blk wr2 w3.heap.size 3 (nums .i64 (Rs.leftOf G (at_.drop i))).toArray ∧ (∀ y ∈ s.L, y.p.bytes.length ≤ 100000) ∧ s.turns ≤ i ∧ Rs.held s.abs ≤ i * 32768)
            case atStart => exact ⟨0, newGs mb nb 4, [], rfl, Nat.zero_le _, rfl, by rw [held_new]; exact hr5, Rs.Inv.start HC.out, Fr.refl _ _, fun k hk => .inl hk, hL, by simp [newGs], by simp [newGs], by rw [held_new]; omega⟩
            case round =>
              obtain ⟨i, s, H, rfl, hi, hk, hR, hInv, hF, hft, hLb, hlim, htu, hh⟩ := hrel
              have HK := Lib.hid hk
              have HINV := Lib.hid hInv
              have HATL2 := Lib.hid HATL.out
              clear hk hInv
              by_cases hlt : i < dps.length
              · have hd1 : decide ((i : Int) < at_.length) = true := decide_eq_true (by have := HATL.out; omega)
                have hila : i < at_.length := by have := HATL.out; omega
                have hd2 : decide (i < at_.length) = true := decide_eq_true hila
                have hp : at_[i] < dps.length := by simpa using HP.out.mem_iff.1 (List.getElem_mem hila)
                have hget : G.flatten[at_[i]]? = some dps[at_[i]].p := by rw [← HDP.out, List.getElem?_map, List.getElem?_eq_getElem hp]; rfl
                have hdrop : at_.drop i = at_[i] :: at_.drop (i + 1) := List.drop_eq_getElem_cons hila
                have hsn := Rs.pcsAt_snoc (G := G) hila hget
                have hnew2 := Rs.pcsAt_new HC.out (by rw [HDL.out]; exact HP.out) hila hget
                obtain ⟨s1, s2, _⟩ := Rs.gidx_step HC.out.run at_[i] _ hget
                have hfl : dps[at_[i]].p ∈ G.flatten := List.mem_of_getElem? hget
                obtain ⟨hcode, H', hInv'⟩ := HINV.out.put HC.out hfl hnew2
                rw [← hsn] at hInv'
                have hdbx := HDB.out _ (List.getElem_mem hp)
                have cA : wr.cell? (adt.add i) = some (.int .i64 (at_[i] : Int)) := (hF.cell (by rw [block_of_add]; exact hal5) (by rw [block_of_add]; exact hnx _ (.inr (.inr (.inl rfl))))).trans (HAT5.out i hila)
                have hDr := hD5.fr hF (hnx _ (.inl rfl))
                have d0 : wr.cell? ⟨gD, at_[i] * 7, none⟩ = some (.int .u32 dps[at_[i]].p.tsn) := hDr.at_ at_[i] hp 0 (by decide)
                have d1 : wr.cell? ⟨gD, at_[i] * 7 + 1, none⟩ = some (.int .u16 dps[at_[i]].p.stream) := hDr.at_ at_[i] hp 1 (by decide)
                have d2 : wr.cell? ⟨gD, at_[i] * 7 + 2, none⟩ = some (.int .u16 dps[at_[i]].p.ssn) := hDr.at_ at_[i] hp 2 (by decide)
                have d3 : wr.cell? ⟨gD, at_[i] * 7 + 3, none⟩ = some (.bool dps[at_[i]].p.un) := hDr.at_ at_[i] hp 3 (by decide)
                have d4 : wr.cell? ⟨gD, at_[i] * 7 + 4, none⟩ = some (.bool dps[at_[i]].p.fi) := hDr.at_ at_[i] hp 4 (by decide)
                have d5 : wr.cell? ⟨gD, at_[i] * 7 + 5, none⟩ = some (.bool dps[at_[i]].p.la) := hDr.at_ at_[i] hp 5 (by decide)
                have d6 : wr.cell? ⟨gD, at_[i] * 7 + 6, none⟩ = some (.slice dps[at_[i]].A dps[at_[i]].p.bytes.length dps[at_[i]].c) := hDr.at_ at_[i] hp 6 (by decide)
                have cO : wr.cell? ⟨w3.heap.size + 1, at_[i], none⟩ = some (.int .i64 (Rs.gidx G at_[i])) := (hF.cell (a := ⟨w3.heap.size + 1, at_[i], none⟩) hOl (hnx _ (.inr (.inr (.inr rfl))))).trans (HOWN.out _ hp)
                have hgl := hDr.lt
                have hnf : ∀ b, (b = gD ∨ b = gM ∨ b = adt.block ∨ b = w3.heap.size + 1 ∨ b = w3.heap.size) → ¬ Foot g s b := fun b hb h => by
                  rcases hft b h with h | h
                  · have := hfoot b h; omega
                  · omega
                have hx1 : (Rs.leftOf G (at_.drop i))[Rs.gidx G at_[i]]? = some ((((at_.drop (i + 1)).filter fun q => Rs.gidx G q == Rs.gidx G at_[i]).length : Int) + 1) := by
                  rw [Rs.leftOf_get s1, hdrop, List.filter_cons, if_pos (by simp)]
                  simp
                have hcons : (Rs.leftOf G (at_.drop i)).set (Rs.gidx G at_[i]) (((at_.drop (i + 1)).filter fun q => Rs.gidx G q == Rs.gidx G at_[i]).length : Int) = Rs.leftOf G (at_.drop (i + 1)) := by
                  rw [hdrop]
                  exact Rs.leftOf_cons.symm
                have hxl : ((at_.drop (i + 1)).filter fun q => Rs.gidx G q == Rs.gidx G at_[i]).length ≤ 100 := by
                  refine Nat.le_trans (List.length_filter_le _ _) ?_
                  rw [List.length_drop]
                  have := HATL.out
                  omega
                have hrgs := HC.out.rng _ hfl
                have hstr := HC.out.strm _ hfl
                have hss := HSSN.out _ hfl
                have hbin : BIn wr dps[at_[i]].A dps[at_[i]].p.bytes := (hdbx.1.fr0 F15).fr' hF (fun ad e hp' h => by
                  obtain ⟨ad', e', hl, _⟩ := hdbx.1 hp'
                  rw [e] at e'
                  injection e' with e'
                  subst e'
                  rcases h with h | h
                  · omega
                  · have := hfoot _ h; omega)
                have hput := put_any g s dps[at_[i]].p dps[at_[i]].A dps[at_[i]].c wr hR hlim (by omega) hstr.1 (by omega) hss.1 hss.2 hrgs.1 hrgs.2 (by have := hdbx.2.2; omega) (by omega) hbin
                rw [HML.out] at s1
                generalize ((at_.drop (i + 1)).filter fun q => Rs.gidx G q == Rs.gidx G at_[i]).length = x at hx1 hcons hxl
                generalize Rs.gidx G at_[i] = j at *
                generalize dps[at_[i]] = dp at *
                generalize at_[i] = p at *
                have HPUT := Lib.hid hput
                have HX1 := Lib.hid hx1
                have HCONS := Lib.hid hcons
                have HCODE := Lib.hid hcode
                have HINV2 := Lib.hid hInv'
                have HHP := Lib.hid (fun h => held_put2 hR.ok ⟨by omega, hlim⟩ hrgs.1 hrgs.2 h)
                have hbl := hdbx.2.2
                clear hput hx1 hcons hcode hInv' hdrop hsn hnew2 hget hbin s2 hdbx hfl hDr HINV hstr hss hrgs
                go_wp2_with fail
                go_at_call 42
                refine HPUT.out.mono ?_
                clear HPUT
                rintro e w6 ⟨he, s', hu, hab, hnl, htu', hl'⟩
                rw [HCODE.out] at he
                subst he
                have hheld : Rs.held s'.abs = Rs.held s.abs + dp.p.bytes.length := by rw [hab]; exact HHP.out HCODE.out
                rw [← hab] at HINV2
                have cA6 : w6.cell? (adt.add i) = some (.int .i64 (p : Int)) := (hu.fr.cell (by have := World.block_lt_of_cell? wr _ cA; exact this) (by rw [block_of_add]; exact hnf _ (.inr (.inr (.inl rfl))))).trans cA
                have cO6 : w6.cell? ⟨w3.heap.size + 1, p, none⟩ = some (.int .i64 (j : Int)) := (hu.fr.cell (a := ⟨w3.heap.size + 1, p, none⟩) (World.block_lt_of_cell? wr _ cO) (hnf _ (.inr (.inr (.inr (.inl rfl)))))).trans cO
                have hLb6 := hLb.fr hu.fr (hnf _ (.inr (.inr (.inr (.inr rfl)))))
                have cL6 : w6.cell? ⟨w3.heap.size, j, none⟩ = some (.int .i64 ((x : Int) + 1)) := (hLb6.cell _).trans (nums_at _ _ _ _ HX1.out)
                have lL := hLb6.lt
                have mL := hLb6.lts
                have fL := hLb6.frozen
                have lO6 : w3.heap.size + 1 < w6.heap.size := hu.fr.lt_of (hF.lt_of hOl)
                have hgu := hu.at_
                have HHELD := Lib.hid hheld
                have HU := Lib.hid hu
                have HL' := Lib.hid hl'
                clear hu hab hnl hl' d0 d1 d2 d3 d4 d5 d6 cA cO hheld
                go_wp2_with fail
                have hLb7 := blk_nums hLb6 j (x : Int) HCONS.out
                have hM7 := ((hM5.fr hF (hnx _ (.inr (.inl rfl)))).fr HU.out.fr (hnf _ (.inr (.inl rfl)))).fr (S := (· = w3.heap.size)) (w' := w6.setCell ⟨w3.heap.size, j, none⟩ (.int .i64 (x : Int))) (Fr.refl _ _).setOne (by omega)
                have hR7 : RsAt (w6.setCell ⟨w3.heap.size, j, none⟩ (.int .i64 (x : Int))) g s' (Rs.held s'.abs) := hgu.fr (S := (· = w3.heap.size)) (Fr.refl _ _).setOne (fun k hk e => by
                  rcases HU.out.foot k hk with h | h
                  · exact hnf k (.inr (.inr (.inr (.inr e)))) h
                  · have := hLb.lt; omega)
                have F67 : Fr (· = w3.heap.size) w6 (w6.setCell ⟨w3.heap.size, j, none⟩ (.int .i64 (x : Int))) := (Fr.refl _ _).setOne
                generalize w6.setCell ⟨w3.heap.size, j, none⟩ (.int .i64 (x : Int)) = W7 at *
                have HCONS2 := HCONS
                clear HCONS2 cA6 cO6 cL6 lL mL fL lO6 hLb6 hgu HX1
                generalize hleft : Rs.leftOf G (at_.drop (i + 1)) = left at hLb7
                have hll : left.length = mps.length := by rw [← hleft, Rs.leftOf_len, HML.out]
                have HLEFT := Lib.hid hleft
                have HLL := Lib.hid hll
                clear hleft hll
                have hfine : s'.row.length = Rs.cntFine left G mps.length := by
                  have h1 := Rs.row_fine HC.out (by rw [HDL.out]; exact HP.out) HINV2
                  rw [HLEFT.out, HML.out] at h1
                  rw [← h1]
                  show s'.row.length = (s'.row.map (·.m)).length
                  rw [List.length_map]
                have HFINE := Lib.hid hfine
                clear hfine
                go_loopg [17, 18] mps.length (fun k v17 v18 w8 => ∃ m : Nat, v17 = .int .i64 (Rs.cntFine left G m) ∧ v18 = .int .i64 m ∧ m ≤ mps.length ∧ k = mps.length - m ∧ Fr (fun _ => False) W7 w8)
                case atStart => exact ⟨0, rfl, rfl, Nat.zero_le _, rfl, Fr.refl _ _⟩
                case round =>
                  obtain ⟨m, rfl, rfl, hm, hk3, hF8⟩ := hrel
                  have HK3 := Lib.hid hk3
                  have hcf := Rs.cntFine_le left G m
                  clear hk3
                  by_cases hml : m < mps.length
                  · have hd3 : decide ((m : Int) < mps.length) = true := decide_eq_true (by omega)
                    have lm : ∀ q, q < mps.length → left[q]? = some (left.getD q 0) := fun q hq' => by
                      have : q < left.length := by rw [HLL.out]; exact hq'
                      rw [List.getD_eq_getElem?_getD, List.getElem?_eq_getElem this]
                      rfl
                    have LM := Lib.hid lm
                    have hL8 := hLb7.fr hF8 (fun h => h)
                    have cl : wr.cell? ⟨w3.heap.size, m, none⟩ = some (.int .i64 (left.getD m 0)) := (hL8.cell _).trans (nums_at _ _ _ _ (lm m hml))
                    have hfz := fineB_zero left G m
                    have HFZ := Lib.hid hfz
                    clear lm hfz
                    generalize hlm0 : left.getD m 0 = lm0 at cl HFZ
                    clear hlm0
                    go_wp2_with fail
                    go_loopg [19, 20] m (fun k v19 v20 w9 => ∃ q : Nat, v19 = .bool (Rs.fineB left G m q) ∧ v20 = .int .i64 q ∧ q ≤ m ∧ k = m - q ∧ Fr (fun _ => False) W7 w9)
                    case atStart => exact ⟨0, by rw [HFZ.out], rfl, Nat.zero_le _, rfl, hF8.trans (by repeat (first | (with_reducible exact Fr.refl _ _) | (with_reducible refine Fr.drewN ?_ _) | (with_reducible refine Fr.drew ?_) | (with_reducible refine Fr.alloc ?_ _)))⟩
                    case round =>
                      clear cl hL8 HFZ hF8
                      obtain ⟨q, rfl, rfl, hqm, hk4, hF9⟩ := hrel
                      have HK4 := Lib.hid hk4
                      clear hk4
                      by_cases hql : q < m
                      · have hd4 : decide ((q : Int) < m) = true := decide_eq_true (by omega)
                        have hM9 := hM7.fr hF9 (fun h => h)
                        have hL9 := hLb7.fr hF9 (fun h => h)
                        have e1 := msg_at HMP.out m hml
                        have e2 := msg_at HMP.out q (by omega)
                        have cm0 : wr.cell? ⟨gM, m * 3, none⟩ = some (.int .u16 (Rs.stAt G m)) := (hM9.at_ m hml 0 (by decide)).trans (by rw [e1]; rfl)
                        have cm1 : wr.cell? ⟨gM, m * 3 + 1, none⟩ = some (.bool (Rs.ordAt G m)) := (hM9.at_ m hml 1 (by decide)).trans (by rw [e1]; rfl)
                        have cq0 : wr.cell? ⟨gM, q * 3, none⟩ = some (.int .u16 (Rs.stAt G q)) := (hM9.at_ q (by omega) 0 (by decide)).trans (by rw [e2]; rfl)
                        have cq1 : wr.cell? ⟨gM, q * 3 + 1, none⟩ = some (.bool (Rs.ordAt G q)) := (hM9.at_ q (by omega) 1 (by decide)).trans (by rw [e2]; rfl)
                        have clq : wr.cell? ⟨w3.heap.size, q, none⟩ = some (.int .i64 (left.getD q 0)) := (hL9.cell _).trans (nums_at _ _ _ _ (LM.out q (by omega)))
                        have hstep := Rs.fineB_step left G m q
                        have hqml : q < mps.length := by omega
                        have hkd : Rs.keeps left G m q = (Rs.ordAt G m && Rs.ordAt G q && Rs.stAt G q == Rs.stAt G m && decide (0 < left.getD q 0)) := rfl
                        have HST := Lib.hid hstep
                        clear hstep e1 e2 hM9 hL9
                        generalize Rs.keeps left G m q = kp at hkd HST
                        generalize left.getD q 0 = lq at *
                        generalize Rs.stAt G m = sm at *
                        generalize Rs.stAt G q = sq at *
                        generalize Rs.ordAt G m = om at *
                        generalize Rs.ordAt G q = oq at *
                        have HKD := Lib.hid hkd
                        clear hkd
                        by_cases hom : om = true
                        · subst hom
                          by_cases hoq : oq = true
                          · subst hoq
                            by_cases hsq : sq = sm
                            · have bs : (sq == sm) = true := beq_iff_eq.2 hsq
                              have HSQ := Lib.hid hsq
                              clear hsq
                              by_cases hl0 : 0 < lq
                              · have bl : decide (0 < lq) = true := decide_eq_true hl0
                                have hkp : kp = true := by rw [HKD.out, bs, bl]; rfl
                                have HKP := Lib.hid hkp
                                clear hkp hl0
                                go_wp2_with fail
                                go_quiet (fail)
                                go_wp2_with fail
                                go_roundg (m - (q + 1))
                                case measure => rw [HK4.out]; omega
                                case rel => exact ⟨q + 1, by rw [HST.out, HKP.out]; rfl, rfl, hql, rfl, hF9.trans (by repeat (first | (with_reducible exact Fr.refl _ _) | (with_reducible refine Fr.drewN ?_ _) | (with_reducible refine Fr.drew ?_) | (with_reducible refine Fr.alloc ?_ _)))⟩
                              · have bl : decide (0 < lq) = false := decide_eq_false hl0
                                have hkp : kp = false := by rw [HKD.out, bs, bl]; rfl
                                have HKP := Lib.hid hkp
                                clear hkp hl0
                                go_wp2_with fail
                                go_quiet (fail)
                                go_wp2_with fail
                                go_roundg (m - (q + 1))
                                case measure => rw [HK4.out]; omega
                                case rel => exact ⟨q + 1, by rw [HST.out, HKP.out]; rfl, rfl, hql, rfl, hF9.trans (by repeat (first | (with_reducible exact Fr.refl _ _) | (with_reducible refine Fr.drewN ?_ _) | (with_reducible refine Fr.drew ?_) | (with_reducible refine Fr.alloc ?_ _)))⟩
                            · have bs : (sq == sm) = false := beq_eq_false_iff_ne.2 hsq
                              have hkp : kp = false := by rw [HKD.out, bs]; rfl
                              have HKP := Lib.hid hkp
                              clear hkp hsq
                              go_wp2_with fail
                              go_quiet (fail)
                              go_wp2_with fail
                              go_roundg (m - (q + 1))
                              case measure => rw [HK4.out]; omega
                              case rel => exact ⟨q + 1, by rw [HST.out, HKP.out]; rfl, rfl, hql, rfl, hF9.trans (by repeat (first | (with_reducible exact Fr.refl _ _) | (with_reducible refine Fr.drewN ?_ _) | (with_reducible refine Fr.drew ?_) | (with_reducible refine Fr.alloc ?_ _)))⟩
                          · have hoq' : oq = false := by simpa using hoq
                            subst hoq'
                            have hkp : kp = false := by rw [HKD.out]; rfl
                            have HKP := Lib.hid hkp
                            clear hkp hoq
                            go_wp2_with fail
                            go_quiet (fail)
                            go_wp2_with fail
                            go_roundg (m - (q + 1))
                            case measure => rw [HK4.out]; omega
                            case rel => exact ⟨q + 1, by rw [HST.out, HKP.out]; rfl, rfl, hql, rfl, hF9.trans (by repeat (first | (with_reducible exact Fr.refl _ _) | (with_reducible refine Fr.drewN ?_ _) | (with_reducible refine Fr.drew ?_) | (with_reducible refine Fr.alloc ?_ _)))⟩
                        · have hom' : om = false := by simpa using hom
                          subst hom'
                          have hkp : kp = false := by rw [HKD.out]; rfl
                          have HKP := Lib.hid hkp
                          clear hkp hom
                          go_wp2_with fail
                          go_quiet (fail)
                          go_wp2_with fail
                          go_roundg (m - (q + 1))
                          case measure => rw [HK4.out]; omega
                          case rel => exact ⟨q + 1, by rw [HST.out, HKP.out]; rfl, rfl, hql, rfl, hF9.trans (by repeat (first | (with_reducible exact Fr.refl _ _) | (with_reducible refine Fr.drewN ?_ _) | (with_reducible refine Fr.drew ?_) | (with_reducible refine Fr.alloc ?_ _)))⟩
                      · have hd4 : decide ((q : Int) < m) = false := decide_eq_false (by omega)
                        obtain rfl : q = m := by omega
                        have hcs := Rs.cntFine_step left G q
                        have HCS := Lib.hid hcs
                        clear hcs
                        cases hfb : Rs.fineB left G q q with
                        | true =>
                          rw [hfb] at HCS
                          have HFB := Lib.hid hfb
                          clear hfb
                          go_wp2_with fail
                          go_roundg (mps.length - (q + 1))
                          case measure => rw [HK3.out]; omega
                          case rel => exact ⟨q + 1, by rw [HCS.out]; rfl, rfl, hml, rfl, hF9.trans (by repeat (first | (with_reducible exact Fr.refl _ _) | (with_reducible refine Fr.drewN ?_ _) | (with_reducible refine Fr.drew ?_) | (with_reducible refine Fr.alloc ?_ _)))⟩
                        | false =>
                          rw [hfb] at HCS
                          have HFB := Lib.hid hfb
                          clear hfb
                          go_wp2_with fail
                          go_roundg (mps.length - (q + 1))
                          case measure => rw [HK3.out]; omega
                          case rel => exact ⟨q + 1, by rw [HCS.out]; rfl, rfl, hml, rfl, hF9.trans (by repeat (first | (with_reducible exact Fr.refl _ _) | (with_reducible refine Fr.drewN ?_ _) | (with_reducible refine Fr.drew ?_) | (with_reducible refine Fr.alloc ?_ _)))⟩
                  · have hd3 : decide ((m : Int) < mps.length) = false := decide_eq_false (by omega)
                    obtain rfl : m = mps.length := by omega
                    have hrd : ((s'.row.length : Int) != (Rs.cntFine left G mps.length : Int)) = false := by rw [HFINE.out]; simp
                    go_wp2_with (go_at_call 34; refine (readyN_any (hR7.fr0 hF8)).mono ?_; rintro e w9 ⟨rfl, hF9⟩)
                    go_roundg (dps.length - (i + 1))
                    case measure => rw [HK.out]; omega
                    case rel =>
                      have FB : Fr (fun b => b = w3.heap.size ∨ Foot g (newGs mb nb 4) b) W5 w6 := hF.then HU.out.fr (fun k hk => by
                        rcases hft k hk with h | h
                        · exact .inl (.inr h)
                        · exact .inr h)
                      have FC : Fr (fun b => b = w3.heap.size ∨ Foot g (newGs mb nb 4) b) W5 W7 := FB.then F67 (fun k hk => .inl (.inl hk))
                      have FD : Fr (fun _ => False) W7 w9 := hF8.trans hF9
                      exact ⟨i + 1, s', H', rfl, hlt, rfl, hR7.fr0 FD, HINV2, FC.trans (FD.mono (fun _ _ h => h.elim)), fun k hk => by
                        rcases HU.out.foot k hk with h | h
                        · exact hft k h
                        · exact .inr (Nat.le_trans hF.size h), by rw [HLEFT.out]; exact hLb7.fr FD (fun h => h), HL'.out, by omega, by have := HHELD.out; omega⟩
              · have hd1 : decide ((i : Int) < at_.length) = false := decide_eq_false (by have := HATL.out; omega)
                have hd2 : decide (i < at_.length) = false := decide_eq_false (by have := HATL.out; omega)
                go_wp2_with (go_at_call 27; refine (works_any _).mono ?_; rintro e w6 ⟨rfl, hf6⟩)
                go_ret
                exact ⟨rfl, (F05.then hF (fun k hk => .inr (by rcases hk with h | h <;> first | omega | (have := hfoot k h; omega)))).trans hf6⟩
end Go.Proofs.Ytpkbckkminmdmaa
