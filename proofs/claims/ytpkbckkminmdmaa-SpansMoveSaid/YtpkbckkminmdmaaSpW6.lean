/- Contracts: the two closures of Gaps; slices.SortedFunc of a set's numbers by how far they are. -/
import Derived.Shelf.SlSortCmp.NoneTotal
import Derived.Test.YtpkbckkminmdmaaShelfB
import Derived.Test.YtpkbckkminmdmaaSpW5
namespace Go.Proofs.Ytpkbckkminmdmaa
open Go.RowKit Go.Shelf Go.Sort
attribute [local go_sem] alloc_drewN setCell_drewN

def farV (b x : Int) : Int := ((x - b) % 4294967296) % 65536
theorem farV_key {b : Int} {d : Nat} (hd : d ≤ 4096) : farV b (Sp.key b d) = d := by unfold farV Sp.key; omega
theorem far_any {W : World} {g bs : Nat} {base : Int} (hs : W.cell? ⟨bs, 0, none⟩ = some (.pointer (some ⟨g, 0, none⟩))) (hg : W.cell? ⟨g, 0, none⟩ = some (.int .u32 base)) (x : Int) :
    Calls Try.prog 110 #[.int .u32 x, .pointer (some ⟨bs, 0, none⟩)] W fun e w' => e = .returned (.int .u16 (farV base x)) ∧ W = w' := by
  have hlt := World.block_lt_of_cell? W _ hg
  have h0 : 0 ≤ (x - base) % 4294967296 := by omega
  unfold farV
  go_enter Try.func110, Try.ntmps110
  go_wp2_with (go_at_call 111; refine (ahead32_any _ _ _).mono ?_; rintro e w' ⟨rfl, rfl⟩)
  go_ret
  exact ⟨rfl, rfl⟩
set_option maxRecDepth 100000 in
theorem nearer_any {W : World} {g bs bf : Nat} {base : Int} (hf : W.cell? ⟨bf, 0, none⟩ = some (.func (.func 110) #[] #[.pointer (some ⟨bs, 0, none⟩)])) (hs : W.cell? ⟨bs, 0, none⟩ = some (.pointer (some ⟨g, 0, none⟩))) (hg : W.cell? ⟨g, 0, none⟩ = some (.int .u32 base)) (x y : Int) :
    Calls Try.prog 112 #[.int .u32 x, .int .u32 y, .pointer (some ⟨bf, 0, none⟩)] W fun e w' => e = .returned (.int .i64 (farV base x - farV base y)) ∧ ∃ q, w' = W.drewN q := by
  have hfar := fun n v => far_any (W := W.drewN n) hs hg v
  have b0 : 0 ≤ farV base x ∧ farV base x < 65536 := by unfold farV; omega
  have b1 : 0 ≤ farV base y ∧ farV base y < 65536 := by unfold farV; omega
  have HF := Lib.hid hfar
  have HS := Lib.hid hs
  have HG := Lib.hid hg
  obtain ⟨b00, b01⟩ := b0
  obtain ⟨b10, b11⟩ := b1
  clear hfar hs hg
  go_enter Try.func112, Try.ntmps112
  go_wp2
  go_quiet ((go_at_call 110; first | exact quiet_add_same (HF.out _ _) | exact quiet_same (HF.out _ _)))
  go_wp2
  go_ret
  exact ⟨rfl, _, rfl⟩

/-! ### a row behind the sort -/
section
variable {α : Type} [Inhabited α] {enc : α → Value} {w : World} {g n : Nat} {os : Array Obj} {cur : Array Value} {e : TypeId} {fr : Nat × Nat}
theorem cell_sortWorld {off m : Nat} {dk : Array α} {a : Addr} (hb : a.block < w.heap.size) (hne : a.block ≠ g) : (sortWorld enc w g off m dk os).cell? a = w.cell? a := by
  unfold sortWorld
  rw [cell?_grow _ _ _ (by simpa using hb), cell?_putRow_other _ _ _ _ _ _ (.inl hne), cell?_ahead]
theorem holds_row {xs : List α} (hb : w.heap[g]? = some (.cells cur e (0, 0))) (ht : cur.toList.take xs.length = xs.map enc) : Holds enc w g 0 xs.toArray := by
  intro j hj
  have hj' : j < xs.length := by simpa using hj
  refine ⟨?_, by simp [World.frozen?, hb]⟩
  have h1 : (cur.toList.take xs.length)[j]? = (xs.map enc)[j]? := by rw [ht]
  rw [List.getElem?_take_of_lt hj'] at h1
  simp only [World.cell?, hb, Nat.zero_add]
  simp only [Option.isSome_none, Bool.false_eq_true, if_false]
  rw [← Array.getElem?_toList, h1]
  simp [hj']
theorem heap_sortW (d : Array α) (hb : w.heap[g]? = some (.cells cur e fr)) : (sortWorld enc w g 0 n d os).heap[g]? = some (.cells (putCells enc 0 d cur) e fr) := by
  have hg : g < w.heap.size := (Array.getElem?_eq_some_iff.1 hb).1
  unfold sortWorld
  rw [heap_grow_old _ _ (by simpa using hg)]
  simp [putRow, mapBlock, Sort.ahead, Array.getElem?_modify, hb, onCells]
theorem grown_sortW (d : Array α) : w.grownBy (sortWorld enc w g 0 n d os) (some g) := by
  refine ⟨rfl, rfl, rfl, by simp [sortWorld], fun k hk hne => ?_⟩
  unfold sortWorld
  rw [heap_grow_old _ _ (by simpa using hk)]
  have : g ≠ k := fun e => hne (by rw [e])
  simp [putRow, mapBlock, Sort.ahead, Array.getElem?_modify, this]
theorem take_put (cur : Array Value) (ts : List α) (h : ts.length ≤ cur.size) : (putCells enc 0 ts.toArray cur).toList.take ts.length = ts.map enc := by
  apply List.ext_getElem?
  intro j
  by_cases hj : j < ts.length
  · rw [List.getElem?_take_of_lt hj, Array.getElem?_toList]
    simp [putCells, hj, show j < cur.size by omega]
  · rw [List.getElem?_take_eq_none (by omega), List.getElem?_eq_none (by simp; omega)]
theorem owns_sortW {base cap : Nat} {xs ts : List α} (hl : ts.length = xs.length) (hbase : base ≤ g) (hb : w.heap[g]? = some (.cells cur e (0, 0)))
    (h1 : xs.length ≤ cap) (h2 : cap ≤ maxLen) (h3 : cur.size = cap * 1) :
    (sortWorld enc w g 0 n ts.toArray os).ownsRow base e 1 (.slice (some ⟨g, 0, none⟩) xs.length cap) xs.length (ts.map enc) :=
  ⟨by simp [hl], .inr ⟨g, cap, _, rfl, hbase, heap_sortW _ hb, h1, h2, by simp [putCells, h3], by rw [Nat.mul_one, ← hl]; exact take_put cur ts (by omega)⟩⟩
end
/-- Sorted by how far they are: the set's numbers, rising. -/
theorem far_sorted {s : Sp.St} (hok : s.Ok) {d : Array Int} {xs : List Int} (hp : d.toList.Perm xs) (hx : xs.Perm (s.ds.map (Sp.key s.base)))
    (hs : SortedIn (ltOf fun x y => farV s.base x - farV s.base y) 0 d.size d) : d.toList = s.ds.map (Sp.key s.base) := by
  have hpk := hp.trans hx
  have hrng : ∀ x ∈ d.toList, ∃ k ∈ s.ds, Sp.key s.base k = x := fun x hx => List.mem_map.1 (hpk.mem_iff.1 hx)
  have hnd : d.toList.Nodup := hpk.nodup_iff.2 (key_nodup hok.rng (Sp.asc_nodup hok.asc))
  have h1 : (d.toList.map fun x => (farV s.base x).toNat).Pairwise (· < ·) := by
    rw [List.pairwise_map, List.pairwise_iff_getElem]
    intro i j hi hj hij
    have h2 := hs i j (Nat.zero_le _) hij (by simpa using hj)
    unfold ltOf at h2
    have e1 : d[i]! = d.toList[i] := by rw [getElem!_pos d i (by simpa using hi)]; rfl
    have e2 : d[j]! = d.toList[j] := by rw [getElem!_pos d j (by simpa using hj)]; rfl
    rw [e1, e2, decide_eq_false_iff_not] at h2
    obtain ⟨a, ha, ea⟩ := hrng _ (List.getElem_mem hi)
    obtain ⟨b, hb, eb⟩ := hrng _ (List.getElem_mem hj)
    have ra := hok.rng a ha
    have rb := hok.rng b hb
    have hne : d.toList[i] ≠ d.toList[j] := fun h => by
      have := (List.getElem?_inj (j := j) hi hnd).1 ((List.getElem?_eq_getElem hi).trans (by rw [h]; exact (List.getElem?_eq_getElem hj).symm))
      omega
    dsimp only at h2
    rw [← ea, ← eb] at h2 hne ⊢
    rw [farV_key ra.2, farV_key rb.2] at h2 ⊢
    have : a ≠ b := fun h => hne (by rw [h])
    omega
  have h3 : d.toList.map (fun x => (farV s.base x).toNat) = s.ds := by
    refine Sp.asc_perm h1 hok.asc ?_
    refine (hpk.map _).trans (List.Perm.of_eq ?_)
    rw [List.map_map]
    refine (List.map_congr_left (g := id) fun k hk => ?_).trans (List.map_id _)
    show (farV s.base (Sp.key s.base k)).toNat = k
    rw [farV_key (hok.rng k hk).2]
    omega
  rw [← h3, List.map_map]
  refine ((List.map_congr_left (f := Sp.key s.base ∘ fun x => (farV s.base x).toNat) (g := id) fun x hx => ?_).trans (List.map_id _)).symm
  obtain ⟨k, hk, rfl⟩ := hrng x hx
  show Sp.key s.base (farV s.base (Sp.key s.base k)).toNat = Sp.key s.base k
  rw [farV_key (hok.rng k hk).2]
  congr 1
theorem swo_far (b : Int) : SWO (ltOf fun x y => farV b x - farV b y) where
  irrefl x := by unfold ltOf; simp
  trans x y z h1 h2 := by unfold ltOf at *; simp at *; omega
  ntrans x y z h1 h2 := by unfold ltOf at *; simp at *; omega
def SortedP (s : Sp.St) (w : World) (e : Ending) (W' : World) : Prop := ∃ v, e = .returned v ∧ W'.ownsRow w.heap.size 29 1 v s.ds.length ((s.ds.map (Sp.key s.base)).map (Value.int .u32)) ∧ Below w.heap.size w W'
set_option maxHeartbeats 1000000 in
theorem sorted_any {g mb clk bs bf Bm : Nat} {s : Sp.St} {l : List En} {w : World} (hi : SpIn w g mb s l clk) (hm : w.cell? ⟨Bm, 0, none⟩ = some (.map (some mb)))
    (hf : w.cell? ⟨bf, 0, none⟩ = some (.func (.func 110) #[] #[.pointer (some ⟨bs, 0, none⟩)])) (hs : w.cell? ⟨bs, 0, none⟩ = some (.pointer (some ⟨g, 0, none⟩))) :
    Calls Try.prog 113 #[.func (.func 145) #[] #[.pointer (some ⟨Bm, 0, none⟩)], .func (.func 112) #[] #[.pointer (some ⟨bf, 0, none⟩)]] w (SortedP s w) := by
  have hlen := hi.ok.len
  have hll := hi.len
  have hcol := collect_any Bm mb clk l w (World.block_lt_of_cell? w _ hm) hm hi.map hi.bornlt hi.born (by omega)
  have lg := hi.blk.lt
  have lf := World.block_lt_of_cell? w _ hf
  have ls := World.block_lt_of_cell? w _ hs
  have hg : w.cell? ⟨g, 0, none⟩ = some (.int .u32 s.base) := hi.blk.cell 0
  have hkeys := hi.keys
  have hok := hi.ok
  have HC := Lib.hid hcol
  have HF := Lib.hid hf
  have HS := Lib.hid hs
  have HG := Lib.hid hg
  have HK := Lib.hid hkeys
  have HLL := Lib.hid hll
  clear hcol hf hs hg hkeys hm hi hll
  go_enter Try.func113, Try.ntmps113
  go_wp2_with (go_at_call 143; refine HC.out.mono ?_; rintro e w1 ⟨v, xs, rfl, hp, hrow, hnil, hb⟩)
  have hpl := hp.trans HK.out
  have hxl : xs.length = s.ds.length := by rw [hpl.length_eq, List.length_map]
  rcases hrow.2 with ⟨rfl, hz⟩ | ⟨gb, cap, cur, rfl, hbase, hgb, r1, r2, r3, r4⟩
  · have hx0 : xs = [] := List.length_eq_zero_iff.1 hz
    have hd0 : s.ds = [] := List.length_eq_zero_iff.1 (by rw [← hxl]; exact hz)
    have hnone := AnyF.slices_SortFunc_none (P := Try.prog) (ρ := Try.sortU_ren) { Try.sortU with } none 0 (.func (.func 112) #[] #[.pointer (some ⟨bf, 0, none⟩)]) w1
    change Calls Try.prog 144 _ _ _ at hnone
    have HN := Lib.hid hnone
    have HD := Lib.hid hd0
    have HX := Lib.hid hx0
    clear hnone hd0 hx0 hp hpl hxl hnil hrow hz
    go_wp2_with (go_at_call 144; refine HN.out.mono ?_; rintro e w2 ⟨rfl, rfl⟩)
    go_ret
    refine ⟨_, rfl, ?_, hb⟩
    rw [HD.out]
    exact ⟨rfl, .inl ⟨rfl, rfl⟩⟩
  · have hc := fun (a : Addr) (v : Value) (h : w.cell? a = some v) (hl : a.block < w.heap.size) (m : Nat) (os : Array Obj) (dk : Array Int) =>
      (cell_sortWorld (enc := Value.int .u32) (w := w1) (g := gb) (os := os) (off := 0) (m := m) (dk := dk) (a := a) (Nat.lt_of_lt_of_le hl hb.size) (by omega)).trans ((hb.cell (p := a) hl).trans h)
    have hcmp : CmpReads Try.prog 112 #[.pointer (some ⟨bf, 0, none⟩)] (Value.int .u32) (fun x y => farV s.base x - farV s.base y) gb 0 xs.toArray.size w1 := fun m os dk _ x y =>
      nearer_any (hc _ _ HF.out lf m os dk) (hc _ _ HS.out ls m os dk) (hc _ _ HG.out lg m os dk) x y
    have eg : ∀ args w, (callFunc 112 args).run Try.prog w = .ok (.enter 112 args) w := enters_of Try.func112 (by kernel_rfl) rfl
    have hcon := Any.slices_SortFunc Try.sortU (Value.int .u32) (fun _ => rfl) (fun x y => farV s.base x - farV s.base y) (swo_far s.base) 112 #[.pointer (some ⟨bf, 0, none⟩)] gb 0 cap xs.toArray w1 eg hcmp.lays
      (holds_row hgb (by simpa using r4)) (Array.getElem?_eq_some_iff.1 hgb).1 (by simp; omega)
    rw [List.size_toArray] at hcon
    change Calls Try.prog 144 _ _ _ at hcon
    have HCON := Lib.hid hcon
    have HP := Lib.hid hpl
    have HX := Lib.hid hxl
    have HROW := Lib.hid hrow
    have HGB := Lib.hid hgb
    have HR3 := Lib.hid r3
    clear hc hcmp eg hcon hpl hp hnil hrow hgb r3 r4
    go_wp2_with (go_at_call 144; refine HCON.out.mono ?_; rintro e w2 ⟨rfl, d', n, os, hpi, hsi, rfl⟩)
    go_ret
    have hd : d'.toList = s.ds.map (Sp.key s.base) := by
      refine far_sorted hok ?_ HP.out (by rw [hpi.1]; simpa using hsi)
      have := hpi.2.2
      have e1 : (d'.extract 0 xs.length).toList = d'.toList := by
        have : d'.size = xs.length := by simpa using hpi.1
        rw [← this, Array.extract_size]
      rw [e1] at this
      simpa using this
    refine ⟨_, rfl, ?_, hb.grown (grown_sortW _) hb.size (fun k e => by cases e; exact hbase)⟩
    rw [← HX.out, ← hd]
    have hl2 : d'.toList.length = xs.length := by simpa using hpi.1
    have := owns_sortW (enc := Value.int .u32) (n := n) (os := os) hl2 hbase HGB.out r1 r2 HR3.out
    simpa using this
end Go.Proofs.Ytpkbckkminmdmaa
