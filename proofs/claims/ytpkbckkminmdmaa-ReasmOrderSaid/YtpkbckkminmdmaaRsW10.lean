/- Contract of (*Reasm).skip. -/
import Derived.Test.YtpkbckkminmdmaaRsW9
import Derived.Test.YtpkbckkminmdmaaRsPure4
namespace Go.Proofs.Ytpkbckkminmdmaa
open Go.RowKit Go.Proofs.YtpkbckkminmdmaaW.PrintWords
attribute [local go_sem] alloc_drewN setCell_drewN isMap_alloc isMap_drew isMap_drewN isMap_setCell cell_setMap frozen_setMap setMap_drew setMap_drewN size_setMap field_piece0 field_data1 field_data3 field_data6

theorem Gs.Ok.fine {s : Gs} (h : s.Ok) (hl : Lim s) : Rs.Fine s.abs.L := by
  refine ⟨?_, ?_, ?_⟩
  · show ((s.L.map (·.p)).map (·.tsn)).Nodup
    rw [List.map_map]
    exact h.keys
  · intro x hx
    obtain ⟨e, he, rfl⟩ := List.mem_map.1 hx
    exact h.tsn e he
  · have := hl.L h
    show (s.L.map (·.p)).length < 1000000
    rw [List.length_map]
    omega
theorem Upd.foot_new {g : Nat} {s s' : Gs} {h' : Int} {w w' : World} (u : Upd g s s' h' w w') (_hlt : ∀ k, Foot g s k → k < w.heap.size) {b : Nat} (hb : b < w.heap.size) (hn : ¬ Foot g s b) : ¬ Foot g s' b := fun h => by
  rcases u.foot b h with h | h
  · exact hn h
  · omega
/-- What a call leaves behind. -/
def SkPost (g : Nat) (s : Gs) (st : Rs.St) (w : World) (e : Ending) (w' : World) : Prop :=
  e = .returned (.tuple #[]) ∧ ∃ s', Upd g s s' (Rs.held s'.abs) w w' ∧ s'.abs = st ∧ Same s s' ∧ Lim s' ∧ Rs.held s'.abs ≤ Rs.held s.abs

/-- In the first loop of 'skip'. -/
structure SL (g : Nat) (s : Gs) (w : World) (b : Nat) (stream tt : Int) (n : Nat) (s1 : Gs) (wr : World) : Prop where
  upd : Upd g s s1 (Rs.held s1.abs) w wr
  same : Same s s1
  lim : Lim s1
  held : Rs.held s1.abs = Rs.held s.abs
  run : Rs.skipTo stream tt n s1.abs = Rs.skipTo stream tt 65537 s.abs
  way : Rs.way s1.abs stream tt < n
  box : Blk wr b 67 #[.int .u16 stream, .int .u16 tt]

theorem skip_keep (g : Nat) (s : Gs) (stream tt : Int) (w : World) (hr : RsAt w g s (Rs.held s.abs)) (hs0 : 0 ≤ stream) (hs1 : stream < s.next.length) (_ht0 : 0 ≤ tt) (_ht1 : tt < 65536) (hlim : Lim s)
    (hq : (Rs.nextOf s.abs stream != tt) = true) (hl : Rs.less16 (Rs.nextOf s.abs stream) tt = false) :
    Calls Try.prog 109 #[.pointer (some ⟨g, 0, none⟩), .agg #[.int .u16 stream, .int .u16 tt]] w (SkPost g s (Rs.skip1 s.abs stream tt) w) := by
  have hsk : Rs.skip1 s.abs stream tt = s.abs := by unfold Rs.skip1; rw [hq, hl]; rfl
  have HSK := Lib.hid hsk
  have hgl := hr.blk.lt
  have hgls := hr.blk.lts
  have cg := hr.blk.cell
  have hn16 := hr.ok.nxl
  have cn := hr.inn.nxt.cell stream.toNat
  have ln := hr.inn.nxt.lt
  have lns := hr.inn.nxt.lts
  rw [next_cell hs0 hs1] at cn
  unfold gcells at cg
  clear hsk
  go_enter Try.func109, Try.ntmps109
  go_wp2_with fail
  go_quiet ((go_at_call 102; first | exact quiet_add_same (less16_any _ _ _) | exact quiet_same (less16_any _ _ _)))
  go_wp2_with fail
  go_end0
  exact ⟨rfl, s, (Upd.refl hr).fr0 (by repeat (first | (with_reducible exact Fr.refl _ _) | (with_reducible refine Fr.drewN ?_ _) | (with_reducible refine Fr.drew ?_) | (with_reducible refine Fr.alloc ?_ _))), HSK.out.symm, Same.refl s, hlim, Int.le_refl _⟩

theorem SL.step {g : Nat} {s : Gs} {w : World} {b : Nat} {stream tt : Int} {n : Nat} {s1 s2 : Gs} {wr w2 : World} {v : Value} (h : SL g s w b stream tt (n + 1) s1 wr) (hlt : ∀ k, Foot g s k → k < w.heap.size) (hb : b < w.heap.size) (hnb : ¬ Foot g s b)
    (hs0 : 0 ≤ stream) (hs1 : stream < s.next.length) (ht0 : 0 ≤ tt) (ht1 : tt < 65536) (hne : Rs.nextOf s1.abs stream ≠ Rs.inc16 tt)
    (hu : Upd g s1 s2 (Rs.held s1.abs) wr w2) (hab : s2.abs = (Rs.waiting s1.abs stream).getD s1.abs) (hsm : Same s1 s2) (hnx : s2.next = s1.next) (hl2 : Lim s2) (hv : v = .int .u16 (Rs.inc16 (Rs.nextOf s2.abs stream))) :
    SL g s w b stream tt n (bumpGs s2 stream) (w2.setCell ⟨s2.nb, stream.toNat, none⟩ v) ∧ Rs.way (bumpGs s2 stream).abs stream tt < Rs.way s1.abs stream tt := by
  have hheld : Rs.held s2.abs = Rs.held s1.abs := by
    rw [hab]
    cases hw : Rs.waiting s1.abs stream with
    | none => rfl
    | some st => exact Rs.waiting_held (h.upd.at_.ok.fine h.lim) hw
  have hlen : stream.toNat < s1.abs.next.length := by
    have := h.same.next
    show stream.toNat < s1.next.length
    omega
  have hx : ∀ x ∈ s1.next, 0 ≤ x ∧ x < 65536 := h.upd.at_.ok.nxr
  have hxn : 0 ≤ Rs.nextOf s1.abs stream ∧ Rs.nextOf s1.abs stream < 65536 := by
    refine hx _ ?_
    unfold Rs.nextOf
    rw [List.getD_eq_getElem?_getD, List.getElem?_eq_getElem hlen]
    exact List.getElem_mem _
  have hway : Rs.way (bumpGs s2 stream).abs stream tt < Rs.way s1.abs stream tt := by
    rw [bumpGs_abs]
    exact Rs.way_bump hlen (show s2.next = s1.next from hnx) hxn.1 hxn.2 ht0 ht1 hne
  have hU := h.upd.trans (hu.trans (bump_upd hu.at_ v hv))
  have hbf := h.upd.foot_new hlt hb hnb
  have hb1 : b < wr.heap.size := Nat.lt_of_lt_of_le hb h.upd.fr.size
  refine ⟨⟨?_, h.same.trans (hsm.trans ⟨rfl, rfl, rfl, rfl, by simp [bumpGs]⟩), ⟨hl2.turns, hl2.by_⟩, ?_, ?_, ?_, ?_⟩, hway⟩
  · have e : Rs.held (bumpGs s2 stream).abs = Rs.held s1.abs := by rw [bumpGs_abs, Rs.held_bump, hheld]
    rw [e]
    exact hU
  · rw [bumpGs_abs, Rs.held_bump, hheld]
    exact h.held
  · rw [← h.run]
    simp only [Rs.skipTo]
    rw [if_neg hne, bumpGs_abs, hab]
  · have := h.way
    omega
  · exact (h.box.fr hu.fr hbf).fr (bump_upd hu.at_ v hv).fr (hu.foot_new (fun k hk => h.upd.at_.foot_lt hk) hb1 hbf)
theorem SL.fr0 {g : Nat} {s : Gs} {w : World} {b : Nat} {stream tt : Int} {n : Nat} {s1 : Gs} {wr w2 : World} (h : SL g s w b stream tt n s1 wr) (hf : Fr (fun _ => False) wr w2) : SL g s w b stream tt n s1 w2 :=
  ⟨h.upd.fr0 hf, h.same, h.lim, h.held, h.run, h.way, h.box.fr hf (fun h => h)⟩
theorem WaitPost.both {g : Nat} {s : Gs} {h stream : Int} {w w' : World} {e : Ending} (hr : RsAt w g s h) (hlim : Lim s) (hp : WaitPost g s h stream w e w') :
    ∃ (s2 : Gs) (b : Bool), e = .returned (.bool b) ∧ Upd g s s2 h w w' ∧ s2.abs = (Rs.waiting s.abs stream).getD s.abs ∧ Same s s2 ∧ s2.next = s.next ∧ Lim s2 := by
  rcases hp with ⟨h1, h2, h3⟩ | ⟨s', st', h1, h2, h3, h4, t1, t2, t3, t4, t5, h5, _⟩
  · exact ⟨s, false, h2, (Upd.refl hr).fr0 h3, by rw [h1]; rfl, Same.refl s, rfl, hlim⟩
  · exact ⟨s', true, h2, h3, by rw [h1, h4]; rfl, ⟨t1, t2, t3, t4, by rw [t5]⟩, t5, h5⟩
/-- Is a piece behind what its stream has skipped? -/
def lateB (stream nx : Int) (p : Rs.Pc) : Bool := !p.un && p.stream == stream && Rs.less16 p.ssn nx
def lateGs (s : Gs) (stream nx : Int) (seen : Array Nat) : Gs := { s with L := s.L.filter fun e => !(seen.contains e.born && lateB stream nx e.p) }
theorem lateGs_foot {g : Nat} {s : Gs} {stream nx : Int} {seen : Array Nat} {k : Nat} (h : Foot g (lateGs s stream nx seen) k) : Foot g s k := by
  rcases h with e | e | e | e | ⟨x, hx, e⟩ | e
  · exact .inl e
  · exact .inr (.inl e)
  · exact .inr (.inr (.inl e))
  · exact .inr (.inr (.inr (.inl e)))
  · exact .inr (.inr (.inr (.inr (.inl ⟨x, (List.mem_filter.1 hx).1, e⟩))))
  · exact .inr (.inr (.inr (.inr (.inr e))))
theorem lateGs_none (s : Gs) (stream nx : Int) : lateGs s stream nx #[] = s := by
  have : s.L.filter (fun e => !((#[] : Array Nat).contains e.born && lateB stream nx e.p)) = s.L := List.filter_eq_self.2 (by simp)
  unfold lateGs
  rw [this]
theorem born_ne {s : Gs} (hok : s.Ok) {x e : Pe} (hx : x ∈ s.L) (he : e ∈ s.L) (h : x ≠ e) : x.born ≠ e.born := fun hb => h (Best.skip.born_uniq hok.born hx he hb)
theorem tsn_ne {s : Gs} (hok : s.Ok) {x e : Pe} (hx : x ∈ s.L) (he : e ∈ s.L) (h : x ≠ e) : x.p.tsn ≠ e.p.tsn := fun hb => h (by
  have h1 := find_of_mem hok.keys hx
  have h2 := find_of_mem hok.keys he
  rw [hb, h2] at h1
  injection h1 with h1
  exact h1.symm)
theorem lateGs_keep {s : Gs} (hok : s.Ok) {stream nx : Int} {seen : Array Nat} {e : Pe} (he : e ∈ s.L) (hl : lateB stream nx e.p = false) : lateGs s stream nx (seen.push e.born) = lateGs s stream nx seen := by
  unfold lateGs
  congr 1
  refine List.filter_congr (fun x hx => ?_)
  by_cases hxe : x = e
  · subst hxe
    rw [hl, Bool.and_false, Bool.and_false]
  · have := born_ne hok hx he hxe
    rw [Array.contains_push]
    rw [show (x.born == e.born) = false from beq_eq_false_iff_ne.2 this]
    simp
theorem lateGs_drop {s : Gs} (hok : s.Ok) {stream nx : Int} {seen : Array Nat} {e : Pe} (he : e ∈ s.L) (hl : lateB stream nx e.p = true) : dropGs (lateGs s stream nx seen) e.p.tsn = lateGs s stream nx (seen.push e.born) := by
  unfold lateGs dropGs
  simp only [List.filter_filter]
  congr 1
  refine List.filter_congr (fun x hx => ?_)
  by_cases hxe : x = e
  · subst hxe
    rw [hl, Array.contains_push]
    simp
  · have h1 := born_ne hok hx he hxe
    have h2 := tsn_ne hok hx he hxe
    rw [Array.contains_push]
    rw [show (x.born == e.born) = false from beq_eq_false_iff_ne.2 h1, show (x.p.tsn != e.p.tsn) = true by simpa using h2]
    simp
theorem lateGs_all {s : Gs} {stream nx : Int} {seen : Array Nat} (hnx : nx = Rs.nextOf s.abs stream) (h : ∀ e ∈ (lateGs s stream nx seen).L, e.born ∈ seen) : (lateGs s stream nx seen).abs = { s.abs with L := Rs.late s.abs stream } := by
  have hall : ∀ e ∈ s.L, e.born ∈ seen := by
    intro e he
    by_cases hs : e.born ∈ seen
    · exact hs
    · exact h e (List.mem_filter.2 ⟨he, by simp [hs]⟩)
  subst hnx
  have e1 : (lateGs s stream (Rs.nextOf s.abs stream) seen).L = s.L.filter (fun e => e.p.un || e.p.stream != stream || !Rs.less16 e.p.ssn (Rs.nextOf s.abs stream)) := by
    unfold lateGs
    refine List.filter_congr (fun e he => ?_)
    rw [show seen.contains e.born = true by simpa using hall e he]
    unfold lateB
    cases e.p.un <;> cases hst : (e.p.stream == stream) <;> simp [bne, hst]
  have e2 : (lateGs s stream (Rs.nextOf s.abs stream) seen).abs.L = Rs.late s.abs stream := by
    show (lateGs s stream (Rs.nextOf s.abs stream) seen).L.map (·.p) = (s.L.map (·.p)).filter _
    rw [e1, List.filter_map]
    rfl
  show Rs.St.mk (lateGs s stream (Rs.nextOf s.abs stream) seen).abs.L s.next (s.row.map (·.m)) = _
  rw [e2]
  rfl
/-- In the second loop of 'skip'. -/
structure DL (g : Nat) (s : Gs) (w : World) (b : Nat) (stream tt : Int) (s1 : Gs) (r : Nat) (seen : Array Nat) (last : Nat) (wr : World) : Prop where
  it : IsIter wr r s1.mb s1.clk seen last
  cl : s1.clk ≤ last
  upd : Upd g s (lateGs s1 stream (Rs.nextOf s1.abs stream) seen) (Rs.held (lateGs s1 stream (Rs.nextOf s1.abs stream) seen).abs) w wr
  held : Rs.held (lateGs s1 stream (Rs.nextOf s1.abs stream) seen).abs ≤ Rs.held s.abs
  box : Blk wr b 67 #[.int .u16 stream, .int .u16 tt]
theorem DL.keep {g : Nat} {s : Gs} {w : World} {b : Nat} {stream tt : Int} {s1 : Gs} {r : Nat} {seen : Array Nat} {last : Nat} {wr w1 : World} (h : DL g s w b stream tt s1 r seen last wr) (hok : s1.Ok) (hr0 : w.heap.size ≤ r) (hrb : r ≠ b) (hrf : ∀ k, Foot g s1 k → k < r) {e : Pe} (he : e ∈ s1.L) (hl : lateB stream (Rs.nextOf s1.abs stream) e.p = false)
    (hit : IsIter w1 r s1.mb s1.clk (seen.push e.born) s1.clk) (hf : Fr (· = r) wr w1) : DL g s w b stream tt s1 r (seen.push e.born) s1.clk w1 := by
  have hnf : ∀ k, Foot g (lateGs s1 stream (Rs.nextOf s1.abs stream) seen) k → ¬ k = r := fun k hk e => by
    have := hrf k (lateGs_foot hk)
    omega
  refine ⟨hit, Nat.le_refl _, ?_, ?_, h.box.fr hf (fun e => hrb e.symm)⟩
  · rw [lateGs_keep hok he hl]
    exact ⟨h.upd.at_.fr hf hnf, h.upd.fr.then hf (fun k e => .inr (by rw [e]; exact hr0)), h.upd.foot⟩
  · rw [lateGs_keep hok he hl]
    exact h.held
set_option maxRecDepth 100000 in
set_option maxHeartbeats 8000000 in
theorem skip_go (g : Nat) (s : Gs) (stream tt : Int) (w : World) (hr : RsAt w g s (Rs.held s.abs)) (hs0 : 0 ≤ stream) (hs1 : stream < s.next.length) (ht0 : 0 ≤ tt) (ht1 : tt < 65536) (hlim : Lim s) (hh : Rs.held s.abs < 1000000000)
    (hq : (Rs.nextOf s.abs stream != tt) = false) :
    Calls Try.prog 109 #[.pointer (some ⟨g, 0, none⟩), .agg #[.int .u16 stream, .int .u16 tt]] w (SkPost g s (Rs.skip1 s.abs stream tt) w) := by
  have hsk : Rs.skip1 s.abs stream tt = Rs.onAll { Rs.skipTo stream tt 65537 s.abs with L := Rs.late (Rs.skipTo stream tt 65537 s.abs) stream } stream := by unfold Rs.skip1; rw [hq]; rfl
  have HSK := Lib.hid hsk
  have hgl := hr.blk.lt
  have hgls := hr.blk.lts
  have cg := hr.blk.cell
  have hn16 := hr.ok.nxl
  have hst2 : stream < 65536 := by omega
  have cn := hr.inn.nxt.cell stream.toNat
  have ln := hr.inn.nxt.lt
  have lns := hr.inn.nxt.lts
  rw [next_cell hs0 hs1] at cn
  unfold gcells at cg
  clear hsk
  have hfl : ∀ k, Foot g s k → k < w.heap.size := fun k hk => hr.foot_lt hk
  have hfl1 : ∀ k, Foot g s k → k < (w.alloc (.cells #[.int .u16 stream, .int .u16 tt] 67)).heap.size := fun k hk => by have := hfl k hk; simp; omega
  have hbn : ¬ Foot g s w.heap.size := fun h => absurd (hfl _ h) (Nat.lt_irrefl _)
  have hwayl := Rs.way_lt s.abs stream tt
  obtain ⟨y, hy⟩ : ∃ y, y = Rs.inc16 tt := ⟨_, rfl⟩
  have hwr : IntKind.u16.wrap (tt + 1) = y := hy.symm
  have HY := Lib.hid hy
  clear hy
  go_enter Try.func109, Try.ntmps109
  go_wp2_with fail
  go_quiet (fail)
  go_wp2_with fail
  go_loopg [] (Rs.way s.abs stream tt) (fun k wr => ∃ (s1 : Gs) (n : Nat), k = Rs.way s1.abs stream tt ∧ SL g s (w.alloc (.cells #[.int .u16 stream, .int .u16 tt] 67)) w.heap.size stream tt n s1 wr)
  case atStart =>
    refine ⟨s, 65537, rfl, (Upd.refl (hr.fr0 (by repeat (first | (with_reducible exact Fr.refl _ _) | (with_reducible refine Fr.drewN ?_ _) | (with_reducible refine Fr.drew ?_) | (with_reducible refine Fr.alloc ?_ _))))).fr0 ((Fr.refl _ _).drewN _), Same.refl s, hlim, rfl, rfl, by omega, (Blk.new w _ _).drewN _⟩
  case round =>
    obtain ⟨s1, n, hk, hI⟩ := hrel
    obtain ⟨wq, rfl⟩ : ∃ x, x = wr := ⟨_, rfl⟩
    have HK := Lib.hid hk
    have HI := Lib.hid hI
    clear hk
    obtain ⟨n, rfl⟩ : ∃ m, n = m + 1 := ⟨n - 1, by have := hI.way; omega⟩
    have hsn : stream < s1.next.length := by rw [hI.same.next]; exact hs1
    have hR1 := hI.upd.at_
    have g1l := hR1.blk.lt
    have g1ls := hR1.blk.lts
    have c1 := hR1.blk.cell
    have n16 := hR1.ok.nxl
    have n1 := hR1.inn.nxt.cell stream.toNat
    have n1l := hR1.inn.nxt.lt
    have n1ls := hR1.inn.nxt.lts
    rw [next_cell hs0 hsn] at n1
    unfold gcells at c1
    have bx := hI.box.cell
    have bxl := hI.box.lt
    have hw := waiting_any g s1 (Rs.held s1.abs) stream
    by_cases hne : Rs.nextOf s1.abs stream = y
    · have hq1 : (Rs.nextOf s1.abs stream != y) = false := by simp [hne]
      have HNE := Lib.hid hne
      clear hne
      go_wp2_with fail
      go_quiet (fail)
      have hskt : Rs.skipTo stream tt 65537 s.abs = s1.abs := by
        rw [← hI.run]
        simp only [Rs.skipTo]
        rw [if_pos (by rw [HNE.out, HY.out])]
      have HSKT := Lib.hid hskt
      clear hskt
      have m1 := hR1.inn.map
      have hrange : ∀ q : Nat, Sem.run Try.prog (Instr.range 140 (.map (some s1.mb))) (wq.drewN q) = .ok (.pointer (some ⟨wq.heap.size, 0, none⟩)) ((wq.drewN q).alloc (.mapIter (some s1.mb) s1.clk #[] s1.clk)) := fun q => run_range_ents Try.underlying140 _ _ (by rw [isMap_drewN]; exact m1)
      go_wp2_with fail
      go_loopg [] (left s1.L #[]) (fun k w2 => ∃ (seen : Array Nat) (last : Nat), k = left s1.L seen ∧ DL g s (w.alloc (.cells #[.int .u16 stream, .int .u16 tt] 67)) w.heap.size stream tt s1 wq.heap.size seen last w2)
      case atStart =>
        refine ⟨#[], s1.clk, rfl, ?_, Nat.le_refl _, ?_, ?_, hI.box.fr (S := fun _ => False) (by repeat (first | (with_reducible exact Fr.refl _ _) | (with_reducible refine Fr.drewN ?_ _) | (with_reducible refine Fr.drew ?_) | (with_reducible refine Fr.alloc ?_ _))) (fun h => h)⟩
        · exact heap_alloc_new _ _
        · rw [lateGs_none]
          exact hI.upd.fr0 (by repeat (first | (with_reducible exact Fr.refl _ _) | (with_reducible refine Fr.drewN ?_ _) | (with_reducible refine Fr.drew ?_) | (with_reducible refine Fr.alloc ?_ _)))
        · rw [lateGs_none, hI.held]
          exact Int.le_refl _
      case round =>
        obtain ⟨seen, last, hk2, hD⟩ := hrel
        have HK2 := Lib.hid hk2
        have HD := Lib.hid hD
        clear hk2 hrange
        have hR2 := hD.upd.at_
        have hmr := hR2.inn.map
        have hrf : ∀ k, Foot g s1 k → k < wq.heap.size := fun k hk => hR1.foot_lt hk
        have hbn2 := hI.upd.foot_new hfl1 (show w.heap.size < _ by simp) hbn
        rcases next_cases (P := Try.prog) wr 0 wq.heap.size s1.mb s1.clk last seen ((lateGs s1 stream (Rs.nextOf s1.abs stream) seen).L.map Pe.en) s1.clk hD.it hmr (by
          intro x hx
          obtain ⟨e, he, rfl⟩ := List.mem_map.1 hx
          exact hR2.ok.bornlt e he) hD.cl (by
          rw [List.map_map]
          exact hR2.ok.born.imp (fun h => Nat.ne_of_lt h)) with ⟨hall, hrun⟩ | ⟨x, hx, hns, w1, hrun, hent, hit1, hf1, hz1⟩
        · have hall' : ∀ e ∈ (lateGs s1 stream (Rs.nextOf s1.abs stream) seen).L, e.born ∈ seen := fun e he => hall _ (List.mem_map_of_mem he)
          have HALL := Lib.hid hall'
          clear hall hall'
          have g2l := hR2.blk.lt
          have bx2 := hD.box.cell
          have bx2l := hD.box.lt
          go_wp2_with (go_at_call 104; refine (on_any g (lateGs s1 stream (Rs.nextOf s1.abs stream) seen) _ stream _ hR2 hs0 hsn ⟨hI.lim.turns, fun e he => hI.lim.by_ e (List.mem_filter.1 he).1⟩).mono ?_; rintro e w3 ⟨rfl, s', hu, hab, hsm, hl'⟩)
          go_end0
          have hLL := lateGs_all (s := s1) (stream := stream) rfl HALL.out
          have hfine : Rs.Fine (lateGs s1 stream (Rs.nextOf s1.abs stream) seen).abs.L := hR2.ok.fine ⟨hI.lim.turns, fun e he => hI.lim.by_ e (List.mem_filter.1 he).1⟩
          have hhe : Rs.held s'.abs = Rs.held (lateGs s1 stream (Rs.nextOf s1.abs stream) seen).abs := by rw [hab, Rs.onAll_held hfine]
          have hU := Upd.pre (Fr.alloc (Fr.refl _ w) _) (hD.upd.trans hu)
          rw [← hhe] at hU
          refine ⟨rfl, s', hU, ?_, hI.same.trans (show Same s1 s' from ⟨hsm.turns, hsm.mb, hsm.nb, hsm.clk, hsm.next⟩), hl', ?_⟩
          · rw [hab, hLL, HSK.out, HSKT.out]
          · rw [hhe]
            exact hD.held
        · obtain ⟨e, he, rfl⟩ := List.mem_map.1 hx
          simp only [Pe.en] at hrun hent hns hit1
          have heL : e ∈ s1.L := (List.mem_filter.1 he).1
          unfold pcells at hrun hent
          have hnf : ∀ k, Foot g (lateGs s1 stream (Rs.nextOf s1.abs stream) seen) k → ¬ k = wq.heap.size := fun k hk e => by
            have := hrf k (lateGs_foot hk)
            omega
          have hrw : (w.alloc (.cells #[.int .u16 stream, .int .u16 tt] 67)).heap.size ≤ wq.heap.size := hI.upd.fr.size
          have hrb : wq.heap.size ≠ w.heap.size := fun e => by
            have := hrw
            simp at this
            omega
          have hR3 := hR2.fr hf1 hnf
          clear hz1
          obtain ⟨h0, hh0⟩ : ∃ x, x = Rs.held (lateGs s1 stream (Rs.nextOf s1.abs stream) seen).abs := ⟨_, rfl⟩
          have c3 : ∀ i, w1.cell? ⟨g, i, none⟩ = (#[.map (some s1.mb), .int .i64 s1.turns, .slice (some ⟨s1.nb, 0, none⟩) s1.next.length s1.next.length, .slice s1.rowA s1.row.length s1.rowc, .int .i64 h0] : Array Value)[i]? := by
            rw [hh0]
            exact hR3.blk.cell
          have l3 := hR3.blk.lt
          have l3s := hR3.blk.lts
          have n3 : w1.cell? ⟨s1.nb, stream.toNat, none⟩ = some (.int .u16 (Rs.nextOf s1.abs stream)) := (hR3.inn.nxt.cell stream.toNat).trans (next_cell hs0 hsn)
          have n3l : s1.nb < w1.heap.size := hR3.inn.nxt.lt
          have n3ls : ∀ k, s1.nb < w1.heap.size + k := hR3.inn.nxt.lts
          have hbx3 := hD.box.fr hf1 (fun e => hrb e.symm)
          have bx3 := hbx3.cell
          have bx3l := hbx3.lt
          have bx3ls := hbx3.lts
          have HH0 := Lib.hid hh0
          clear hh0
          cases hun : e.p.un with
          | true =>
            rw [hun] at hrun hent
            have HUN := Lib.hid hun
            clear hun
            go_wp2_with fail
            go_quiet (fail)
            go_wp2_with fail
            go_roundg (left s1.L (seen.push e.born))
            case measure =>
              rw [HK2.out]
              exact left_push s1.L seen e heL hns
            case rel =>
              exact ⟨_, _, rfl, hD.keep hR1.ok hrw hrb hrf heL (by simp [lateB, HUN.out]) (hit1.fr (S := fun _ => False) (by repeat (first | (with_reducible exact Fr.refl _ _) | (with_reducible refine Fr.drewN ?_ _) | (with_reducible refine Fr.drew ?_) | (with_reducible refine Fr.alloc ?_ _))) (fun h => h)) (hf1.trans (by repeat (first | (with_reducible exact Fr.refl _ _) | (with_reducible refine Fr.drewN ?_ _) | (with_reducible refine Fr.drew ?_) | (with_reducible refine Fr.alloc ?_ _))))⟩
          | false =>
            rw [hun] at hrun hent
            have HUN := Lib.hid hun
            clear hun
            cases hst : (e.p.stream == stream) with
            | false =>
              have HST := Lib.hid hst
              go_wp2_with fail
              go_quiet (fail)
              go_wp2_with fail
              go_roundg (left s1.L (seen.push e.born))
              case measure =>
                rw [HK2.out]
                exact left_push s1.L seen e heL hns
              case rel =>
                exact ⟨_, _, rfl, hD.keep hR1.ok hrw hrb hrf heL (by simp [lateB, HST.out]) (hit1.fr (S := fun _ => False) (by repeat (first | (with_reducible exact Fr.refl _ _) | (with_reducible refine Fr.drewN ?_ _) | (with_reducible refine Fr.drew ?_) | (with_reducible refine Fr.alloc ?_ _))) (fun h => h)) (hf1.trans (by repeat (first | (with_reducible exact Fr.refl _ _) | (with_reducible refine Fr.drewN ?_ _) | (with_reducible refine Fr.drew ?_) | (with_reducible refine Fr.alloc ?_ _))))⟩
            | true =>
              have HST := Lib.hid hst
              cases hls : Rs.less16 e.p.ssn (Rs.nextOf s1.abs stream) with
              | false =>
                have HLS := Lib.hid hls
                go_wp2_with fail
                go_quiet ((go_at_call 102; first | exact quiet_add_same (less16_any _ _ _) | exact quiet_same (less16_any _ _ _)))
                go_wp2_with fail
                go_roundg (left s1.L (seen.push e.born))
                case measure =>
                  rw [HK2.out]
                  exact left_push s1.L seen e heL hns
                case rel =>
                  exact ⟨_, _, rfl, hD.keep hR1.ok hrw hrb hrf heL (by simp [lateB, HLS.out]) (hit1.fr (S := fun _ => False) (by repeat (first | (with_reducible exact Fr.refl _ _) | (with_reducible refine Fr.drewN ?_ _) | (with_reducible refine Fr.drew ?_) | (with_reducible refine Fr.alloc ?_ _))) (fun h => h)) (hf1.trans (by repeat (first | (with_reducible exact Fr.refl _ _) | (with_reducible refine Fr.drewN ?_ _) | (with_reducible refine Fr.drew ?_) | (with_reducible refine Fr.alloc ?_ _))))⟩
              | true =>
                have HLS := Lib.hid hls
                have hlt : lateB stream (Rs.nextOf s1.abs stream) e.p = true := by simp [lateB, HLS.out, HST.out, HUN.out]
                have HLT := Lib.hid hlt
                clear hlt
                go_wp2_with fail
                go_quiet ((go_at_call 102; first | exact quiet_add_same (less16_any _ _ _) | exact quiet_same (less16_any _ _ _)))
                go_wp2_with (go_at_call 142; refine (drop_at (s := lateGs s1 stream (Rs.nextOf s1.abs stream) seen) (hR3.fr0 (by repeat (first | (with_reducible exact Fr.refl _ _) | (with_reducible refine Fr.drewN ?_ _) | (with_reducible refine Fr.drew ?_) | (with_reducible refine Fr.alloc ?_ _)))) he (held_mem he) (by have := hD.held; omega) _ (by unfold pcells; rw [HUN.out])).mono ?_; rintro e2 w2 ⟨rfl, hu2⟩)
                go_roundg (left s1.L (seen.push e.born))
                case measure =>
                  rw [HK2.out]
                  exact left_push s1.L seen e heL hns
                case rel =>
                  have hu3 := Upd.pre (Fr.drewN (Fr.alloc (Fr.refl _ w1) _) _) hu2
                  rw [← held_drop hR3.ok he, lateGs_drop hR1.ok heL HLT.out] at hu3
                  refine ⟨_, _, rfl, ⟨?_, Nat.le_refl _, ?_, ?_, ?_⟩⟩
                  · exact hit1.fr hu3.fr (fun h => hnf _ h rfl)
                  · exact Upd.trans ⟨hR3, hD.upd.fr.then hf1 (fun k e => .inr (by rw [e]; exact hrw)), hD.upd.foot⟩ hu3
                  · rw [← lateGs_drop hR1.ok heL HLT.out, held_drop hR3.ok he]
                    have := hD.held
                    omega
                  · exact hbx3.fr hu3.fr (fun h => hbn2 (lateGs_foot h))
    · have hq1 : (Rs.nextOf s1.abs stream != y) = true := by simp [hne]
      have HNE := Lib.hid hne
      clear hne
      go_wp2_with fail
      go_quiet (fail)
      go_wp2_with (go_at_call 140; refine (waiting_any g s1 (Rs.held s1.abs) stream _ (hR1.fr0 (by repeat (first | (with_reducible exact Fr.refl _ _) | (with_reducible refine Fr.drewN ?_ _) | (with_reducible refine Fr.drew ?_) | (with_reducible refine Fr.alloc ?_ _)))) hs0 hsn hI.lim).mono ?_; rintro e w2 hp; obtain ⟨s2, bb, rfl, hu2, hab, hsm, hnx, hl2⟩ := hp.both (hR1.fr0 (by repeat (first | (with_reducible exact Fr.refl _ _) | (with_reducible refine Fr.drewN ?_ _) | (with_reducible refine Fr.drew ?_) | (with_reducible refine Fr.alloc ?_ _)))) hI.lim; have HAB := Lib.hid hab; have HSM := Lib.hid hsm; have HNX := Lib.hid hnx; clear hab hsm hnx; have hR2 := hu2.at_; have hsn2 : stream < s2.next.length := (by rw [HNX.out]; exact hsn); have g2l := hR2.blk.lt; have g2ls := hR2.blk.lts; have c2 := hR2.blk.cell; have n2 := hR2.inn.nxt.cell stream.toNat; have n2l := hR2.inn.nxt.lt; have n2ls := hR2.inn.nxt.lts; have f2 := hR2.inn.nxt.frozen; have n162 := hR2.ok.nxl; rw [next_cell hs0 hsn2] at n2; unfold gcells at c2; have hbx2 := Blk.fr (Blk.fr hI.box (S := fun _ => False) (by repeat (first | (with_reducible exact Fr.refl _ _) | (with_reducible refine Fr.drewN ?_ _) | (with_reducible refine Fr.drew ?_) | (with_reducible refine Fr.alloc ?_ _))) (fun h => h)) hu2.fr (hI.upd.foot_new hfl1 (by simp) hbn); have bx2 := hbx2.cell; have bx2l := hbx2.lt)
      go_region
      go_wp2_with fail
      go_roundg (Rs.way (bumpGs s2 stream).abs stream tt)
      case measure =>
        rw [HK.out]
        exact ((HI.out.fr0 (by repeat (first | (with_reducible exact Fr.refl _ _) | (with_reducible refine Fr.drewN ?_ _) | (with_reducible refine Fr.drew ?_) | (with_reducible refine Fr.alloc ?_ _)))).step hfl1 (by simp) hbn hs0 hs1 ht0 ht1 (by rw [← HY.out]; exact HNE.out) hu2 HAB.out HSM.out HNX.out hl2 rfl).2
      case rel =>
        exact ⟨bumpGs s2 stream, n, rfl, ((HI.out.fr0 (by repeat (first | (with_reducible exact Fr.refl _ _) | (with_reducible refine Fr.drewN ?_ _) | (with_reducible refine Fr.drew ?_) | (with_reducible refine Fr.alloc ?_ _)))).step hfl1 (by simp) hbn hs0 hs1 ht0 ht1 (by rw [← HY.out]; exact HNE.out) hu2 HAB.out HSM.out HNX.out hl2 rfl).1.fr0 ((Fr.refl _ _).drew)⟩
set_option maxRecDepth 100000 in
set_option maxHeartbeats 8000000 in
theorem skip_go2 (g : Nat) (s : Gs) (stream tt : Int) (w : World) (hr : RsAt w g s (Rs.held s.abs)) (hs0 : 0 ≤ stream) (hs1 : stream < s.next.length) (ht0 : 0 ≤ tt) (ht1 : tt < 65536) (hlim : Lim s) (hh : Rs.held s.abs < 1000000000)
    (hq : (Rs.nextOf s.abs stream != tt) = true) (hl : Rs.less16 (Rs.nextOf s.abs stream) tt = true) :
    Calls Try.prog 109 #[.pointer (some ⟨g, 0, none⟩), .agg #[.int .u16 stream, .int .u16 tt]] w (SkPost g s (Rs.skip1 s.abs stream tt) w) := by
  have hsk : Rs.skip1 s.abs stream tt = Rs.onAll { Rs.skipTo stream tt 65537 s.abs with L := Rs.late (Rs.skipTo stream tt 65537 s.abs) stream } stream := by unfold Rs.skip1; rw [hq, hl]; rfl
  have HSK := Lib.hid hsk
  have hgl := hr.blk.lt
  have hgls := hr.blk.lts
  have cg := hr.blk.cell
  have hn16 := hr.ok.nxl
  have hst2 : stream < 65536 := by omega
  have cn := hr.inn.nxt.cell stream.toNat
  have ln := hr.inn.nxt.lt
  have lns := hr.inn.nxt.lts
  rw [next_cell hs0 hs1] at cn
  unfold gcells at cg
  clear hsk
  have hfl : ∀ k, Foot g s k → k < w.heap.size := fun k hk => hr.foot_lt hk
  have hfl1 : ∀ k, Foot g s k → k < (w.alloc (.cells #[.int .u16 stream, .int .u16 tt] 67)).heap.size := fun k hk => by have := hfl k hk; simp; omega
  have hbn : ¬ Foot g s w.heap.size := fun h => absurd (hfl _ h) (Nat.lt_irrefl _)
  have hwayl := Rs.way_lt s.abs stream tt
  obtain ⟨y, hy⟩ : ∃ y, y = Rs.inc16 tt := ⟨_, rfl⟩
  have hwr : IntKind.u16.wrap (tt + 1) = y := hy.symm
  have HY := Lib.hid hy
  clear hy
  have hless : ∀ W : World, Calls Try.prog 102 #[.int .u16 (Rs.nextOf s.abs stream), .int .u16 tt] W fun e w' => e = .returned (.bool true) ∧ W = w' := fun W => by
    have := less16_any (Rs.nextOf s.abs stream) tt W
    rw [hl] at this
    exact this
  clear hl
  go_enter Try.func109, Try.ntmps109
  go_wp2_with fail
  go_quiet ((go_at_call 102; first | exact quiet_add_same (hless _) | exact quiet_same (hless _)))
  go_wp2_with fail
  go_loopg [] (Rs.way s.abs stream tt) (fun k wr => ∃ (s1 : Gs) (n : Nat), k = Rs.way s1.abs stream tt ∧ SL g s (w.alloc (.cells #[.int .u16 stream, .int .u16 tt] 67)) w.heap.size stream tt n s1 wr)
  case atStart =>
    refine ⟨s, 65537, rfl, (Upd.refl (hr.fr0 (by repeat (first | (with_reducible exact Fr.refl _ _) | (with_reducible refine Fr.drewN ?_ _) | (with_reducible refine Fr.drew ?_) | (with_reducible refine Fr.alloc ?_ _))))).fr0 ((Fr.refl _ _).drewN _), Same.refl s, hlim, rfl, rfl, by omega, (Blk.new w _ _).drewN _⟩
  case round =>
    obtain ⟨s1, n, hk, hI⟩ := hrel
    obtain ⟨wq, rfl⟩ : ∃ x, x = wr := ⟨_, rfl⟩
    have HK := Lib.hid hk
    have HI := Lib.hid hI
    clear hk
    obtain ⟨n, rfl⟩ : ∃ m, n = m + 1 := ⟨n - 1, by have := hI.way; omega⟩
    have hsn : stream < s1.next.length := by rw [hI.same.next]; exact hs1
    have hR1 := hI.upd.at_
    have g1l := hR1.blk.lt
    have g1ls := hR1.blk.lts
    have c1 := hR1.blk.cell
    have n16 := hR1.ok.nxl
    have n1 := hR1.inn.nxt.cell stream.toNat
    have n1l := hR1.inn.nxt.lt
    have n1ls := hR1.inn.nxt.lts
    rw [next_cell hs0 hsn] at n1
    unfold gcells at c1
    have bx := hI.box.cell
    have bxl := hI.box.lt
    have hw := waiting_any g s1 (Rs.held s1.abs) stream
    by_cases hne : Rs.nextOf s1.abs stream = y
    · have hq1 : (Rs.nextOf s1.abs stream != y) = false := by simp [hne]
      have HNE := Lib.hid hne
      clear hne
      go_wp2_with fail
      go_quiet (fail)
      have hskt : Rs.skipTo stream tt 65537 s.abs = s1.abs := by
        rw [← hI.run]
        simp only [Rs.skipTo]
        rw [if_pos (by rw [HNE.out, HY.out])]
      have HSKT := Lib.hid hskt
      clear hskt
      have m1 := hR1.inn.map
      have hrange : ∀ q : Nat, Sem.run Try.prog (Instr.range 140 (.map (some s1.mb))) (wq.drewN q) = .ok (.pointer (some ⟨wq.heap.size, 0, none⟩)) ((wq.drewN q).alloc (.mapIter (some s1.mb) s1.clk #[] s1.clk)) := fun q => run_range_ents Try.underlying140 _ _ (by rw [isMap_drewN]; exact m1)
      go_wp2_with fail
      go_loopg [] (left s1.L #[]) (fun k w2 => ∃ (seen : Array Nat) (last : Nat), k = left s1.L seen ∧ DL g s (w.alloc (.cells #[.int .u16 stream, .int .u16 tt] 67)) w.heap.size stream tt s1 wq.heap.size seen last w2)
      case atStart =>
        refine ⟨#[], s1.clk, rfl, ?_, Nat.le_refl _, ?_, ?_, hI.box.fr (S := fun _ => False) (by repeat (first | (with_reducible exact Fr.refl _ _) | (with_reducible refine Fr.drewN ?_ _) | (with_reducible refine Fr.drew ?_) | (with_reducible refine Fr.alloc ?_ _))) (fun h => h)⟩
        · exact heap_alloc_new _ _
        · rw [lateGs_none]
          exact hI.upd.fr0 (by repeat (first | (with_reducible exact Fr.refl _ _) | (with_reducible refine Fr.drewN ?_ _) | (with_reducible refine Fr.drew ?_) | (with_reducible refine Fr.alloc ?_ _)))
        · rw [lateGs_none, hI.held]
          exact Int.le_refl _
      case round =>
        obtain ⟨seen, last, hk2, hD⟩ := hrel
        have HK2 := Lib.hid hk2
        have HD := Lib.hid hD
        clear hk2 hrange
        have hR2 := hD.upd.at_
        have hmr := hR2.inn.map
        have hrf : ∀ k, Foot g s1 k → k < wq.heap.size := fun k hk => hR1.foot_lt hk
        have hbn2 := hI.upd.foot_new hfl1 (show w.heap.size < _ by simp) hbn
        rcases next_cases (P := Try.prog) wr 0 wq.heap.size s1.mb s1.clk last seen ((lateGs s1 stream (Rs.nextOf s1.abs stream) seen).L.map Pe.en) s1.clk hD.it hmr (by
          intro x hx
          obtain ⟨e, he, rfl⟩ := List.mem_map.1 hx
          exact hR2.ok.bornlt e he) hD.cl (by
          rw [List.map_map]
          exact hR2.ok.born.imp (fun h => Nat.ne_of_lt h)) with ⟨hall, hrun⟩ | ⟨x, hx, hns, w1, hrun, hent, hit1, hf1, hz1⟩
        · have hall' : ∀ e ∈ (lateGs s1 stream (Rs.nextOf s1.abs stream) seen).L, e.born ∈ seen := fun e he => hall _ (List.mem_map_of_mem he)
          have HALL := Lib.hid hall'
          clear hall hall'
          have g2l := hR2.blk.lt
          have bx2 := hD.box.cell
          have bx2l := hD.box.lt
          go_wp2_with (go_at_call 104; refine (on_any g (lateGs s1 stream (Rs.nextOf s1.abs stream) seen) _ stream _ hR2 hs0 hsn ⟨hI.lim.turns, fun e he => hI.lim.by_ e (List.mem_filter.1 he).1⟩).mono ?_; rintro e w3 ⟨rfl, s', hu, hab, hsm, hl'⟩)
          go_end0
          have hLL := lateGs_all (s := s1) (stream := stream) rfl HALL.out
          have hfine : Rs.Fine (lateGs s1 stream (Rs.nextOf s1.abs stream) seen).abs.L := hR2.ok.fine ⟨hI.lim.turns, fun e he => hI.lim.by_ e (List.mem_filter.1 he).1⟩
          have hhe : Rs.held s'.abs = Rs.held (lateGs s1 stream (Rs.nextOf s1.abs stream) seen).abs := by rw [hab, Rs.onAll_held hfine]
          have hU := Upd.pre (Fr.alloc (Fr.refl _ w) _) (hD.upd.trans hu)
          rw [← hhe] at hU
          refine ⟨rfl, s', hU, ?_, hI.same.trans (show Same s1 s' from ⟨hsm.turns, hsm.mb, hsm.nb, hsm.clk, hsm.next⟩), hl', ?_⟩
          · rw [hab, hLL, HSK.out, HSKT.out]
          · rw [hhe]
            exact hD.held
        · obtain ⟨e, he, rfl⟩ := List.mem_map.1 hx
          simp only [Pe.en] at hrun hent hns hit1
          have heL : e ∈ s1.L := (List.mem_filter.1 he).1
          unfold pcells at hrun hent
          have hnf : ∀ k, Foot g (lateGs s1 stream (Rs.nextOf s1.abs stream) seen) k → ¬ k = wq.heap.size := fun k hk e => by
            have := hrf k (lateGs_foot hk)
            omega
          have hrw : (w.alloc (.cells #[.int .u16 stream, .int .u16 tt] 67)).heap.size ≤ wq.heap.size := hI.upd.fr.size
          have hrb : wq.heap.size ≠ w.heap.size := fun e => by
            have := hrw
            simp at this
            omega
          have hR3 := hR2.fr hf1 hnf
          clear hz1
          obtain ⟨h0, hh0⟩ : ∃ x, x = Rs.held (lateGs s1 stream (Rs.nextOf s1.abs stream) seen).abs := ⟨_, rfl⟩
          have c3 : ∀ i, w1.cell? ⟨g, i, none⟩ = (#[.map (some s1.mb), .int .i64 s1.turns, .slice (some ⟨s1.nb, 0, none⟩) s1.next.length s1.next.length, .slice s1.rowA s1.row.length s1.rowc, .int .i64 h0] : Array Value)[i]? := by
            rw [hh0]
            exact hR3.blk.cell
          have l3 := hR3.blk.lt
          have l3s := hR3.blk.lts
          have n3 : w1.cell? ⟨s1.nb, stream.toNat, none⟩ = some (.int .u16 (Rs.nextOf s1.abs stream)) := (hR3.inn.nxt.cell stream.toNat).trans (next_cell hs0 hsn)
          have n3l : s1.nb < w1.heap.size := hR3.inn.nxt.lt
          have n3ls : ∀ k, s1.nb < w1.heap.size + k := hR3.inn.nxt.lts
          have hbx3 := hD.box.fr hf1 (fun e => hrb e.symm)
          have bx3 := hbx3.cell
          have bx3l := hbx3.lt
          have bx3ls := hbx3.lts
          have HH0 := Lib.hid hh0
          clear hh0
          cases hun : e.p.un with
          | true =>
            rw [hun] at hrun hent
            have HUN := Lib.hid hun
            clear hun
            go_wp2_with fail
            go_quiet (fail)
            go_wp2_with fail
            go_roundg (left s1.L (seen.push e.born))
            case measure =>
              rw [HK2.out]
              exact left_push s1.L seen e heL hns
            case rel =>
              exact ⟨_, _, rfl, hD.keep hR1.ok hrw hrb hrf heL (by simp [lateB, HUN.out]) (hit1.fr (S := fun _ => False) (by repeat (first | (with_reducible exact Fr.refl _ _) | (with_reducible refine Fr.drewN ?_ _) | (with_reducible refine Fr.drew ?_) | (with_reducible refine Fr.alloc ?_ _))) (fun h => h)) (hf1.trans (by repeat (first | (with_reducible exact Fr.refl _ _) | (with_reducible refine Fr.drewN ?_ _) | (with_reducible refine Fr.drew ?_) | (with_reducible refine Fr.alloc ?_ _))))⟩
          | false =>
            rw [hun] at hrun hent
            have HUN := Lib.hid hun
            clear hun
            cases hst : (e.p.stream == stream) with
            | false =>
              have HST := Lib.hid hst
              go_wp2_with fail
              go_quiet (fail)
              go_wp2_with fail
              go_roundg (left s1.L (seen.push e.born))
              case measure =>
                rw [HK2.out]
                exact left_push s1.L seen e heL hns
              case rel =>
                exact ⟨_, _, rfl, hD.keep hR1.ok hrw hrb hrf heL (by simp [lateB, HST.out]) (hit1.fr (S := fun _ => False) (by repeat (first | (with_reducible exact Fr.refl _ _) | (with_reducible refine Fr.drewN ?_ _) | (with_reducible refine Fr.drew ?_) | (with_reducible refine Fr.alloc ?_ _))) (fun h => h)) (hf1.trans (by repeat (first | (with_reducible exact Fr.refl _ _) | (with_reducible refine Fr.drewN ?_ _) | (with_reducible refine Fr.drew ?_) | (with_reducible refine Fr.alloc ?_ _))))⟩
            | true =>
              have HST := Lib.hid hst
              cases hls : Rs.less16 e.p.ssn (Rs.nextOf s1.abs stream) with
              | false =>
                have HLS := Lib.hid hls
                go_wp2_with fail
                go_quiet ((go_at_call 102; first | exact quiet_add_same (less16_any _ _ _) | exact quiet_same (less16_any _ _ _)))
                go_wp2_with fail
                go_roundg (left s1.L (seen.push e.born))
                case measure =>
                  rw [HK2.out]
                  exact left_push s1.L seen e heL hns
                case rel =>
                  exact ⟨_, _, rfl, hD.keep hR1.ok hrw hrb hrf heL (by simp [lateB, HLS.out]) (hit1.fr (S := fun _ => False) (by repeat (first | (with_reducible exact Fr.refl _ _) | (with_reducible refine Fr.drewN ?_ _) | (with_reducible refine Fr.drew ?_) | (with_reducible refine Fr.alloc ?_ _))) (fun h => h)) (hf1.trans (by repeat (first | (with_reducible exact Fr.refl _ _) | (with_reducible refine Fr.drewN ?_ _) | (with_reducible refine Fr.drew ?_) | (with_reducible refine Fr.alloc ?_ _))))⟩
              | true =>
                have HLS := Lib.hid hls
                have hlt : lateB stream (Rs.nextOf s1.abs stream) e.p = true := by simp [lateB, HLS.out, HST.out, HUN.out]
                have HLT := Lib.hid hlt
                clear hlt
                go_wp2_with fail
                go_quiet ((go_at_call 102; first | exact quiet_add_same (less16_any _ _ _) | exact quiet_same (less16_any _ _ _)))
                go_wp2_with (go_at_call 142; refine (drop_at (s := lateGs s1 stream (Rs.nextOf s1.abs stream) seen) (hR3.fr0 (by repeat (first | (with_reducible exact Fr.refl _ _) | (with_reducible refine Fr.drewN ?_ _) | (with_reducible refine Fr.drew ?_) | (with_reducible refine Fr.alloc ?_ _)))) he (held_mem he) (by have := hD.held; omega) _ (by unfold pcells; rw [HUN.out])).mono ?_; rintro e2 w2 ⟨rfl, hu2⟩)
                go_roundg (left s1.L (seen.push e.born))
                case measure =>
                  rw [HK2.out]
                  exact left_push s1.L seen e heL hns
                case rel =>
                  have hu3 := Upd.pre (Fr.drewN (Fr.alloc (Fr.refl _ w1) _) _) hu2
                  rw [← held_drop hR3.ok he, lateGs_drop hR1.ok heL HLT.out] at hu3
                  refine ⟨_, _, rfl, ⟨?_, Nat.le_refl _, ?_, ?_, ?_⟩⟩
                  · exact hit1.fr hu3.fr (fun h => hnf _ h rfl)
                  · exact Upd.trans ⟨hR3, hD.upd.fr.then hf1 (fun k e => .inr (by rw [e]; exact hrw)), hD.upd.foot⟩ hu3
                  · rw [← lateGs_drop hR1.ok heL HLT.out, held_drop hR3.ok he]
                    have := hD.held
                    omega
                  · exact hbx3.fr hu3.fr (fun h => hbn2 (lateGs_foot h))
    · have hq1 : (Rs.nextOf s1.abs stream != y) = true := by simp [hne]
      have HNE := Lib.hid hne
      clear hne
      go_wp2_with fail
      go_quiet (fail)
      go_wp2_with (go_at_call 140; refine (waiting_any g s1 (Rs.held s1.abs) stream _ (hR1.fr0 (by repeat (first | (with_reducible exact Fr.refl _ _) | (with_reducible refine Fr.drewN ?_ _) | (with_reducible refine Fr.drew ?_) | (with_reducible refine Fr.alloc ?_ _)))) hs0 hsn hI.lim).mono ?_; rintro e w2 hp; obtain ⟨s2, bb, rfl, hu2, hab, hsm, hnx, hl2⟩ := hp.both (hR1.fr0 (by repeat (first | (with_reducible exact Fr.refl _ _) | (with_reducible refine Fr.drewN ?_ _) | (with_reducible refine Fr.drew ?_) | (with_reducible refine Fr.alloc ?_ _)))) hI.lim; have HAB := Lib.hid hab; have HSM := Lib.hid hsm; have HNX := Lib.hid hnx; clear hab hsm hnx; have hR2 := hu2.at_; have hsn2 : stream < s2.next.length := (by rw [HNX.out]; exact hsn); have g2l := hR2.blk.lt; have g2ls := hR2.blk.lts; have c2 := hR2.blk.cell; have n2 := hR2.inn.nxt.cell stream.toNat; have n2l := hR2.inn.nxt.lt; have n2ls := hR2.inn.nxt.lts; have f2 := hR2.inn.nxt.frozen; have n162 := hR2.ok.nxl; rw [next_cell hs0 hsn2] at n2; unfold gcells at c2; have hbx2 := Blk.fr (Blk.fr hI.box (S := fun _ => False) (by repeat (first | (with_reducible exact Fr.refl _ _) | (with_reducible refine Fr.drewN ?_ _) | (with_reducible refine Fr.drew ?_) | (with_reducible refine Fr.alloc ?_ _))) (fun h => h)) hu2.fr (hI.upd.foot_new hfl1 (by simp) hbn); have bx2 := hbx2.cell; have bx2l := hbx2.lt)
      go_region
      go_wp2_with fail
      go_roundg (Rs.way (bumpGs s2 stream).abs stream tt)
      case measure =>
        rw [HK.out]
        exact ((HI.out.fr0 (by repeat (first | (with_reducible exact Fr.refl _ _) | (with_reducible refine Fr.drewN ?_ _) | (with_reducible refine Fr.drew ?_) | (with_reducible refine Fr.alloc ?_ _)))).step hfl1 (by simp) hbn hs0 hs1 ht0 ht1 (by rw [← HY.out]; exact HNE.out) hu2 HAB.out HSM.out HNX.out hl2 rfl).2
      case rel =>
        exact ⟨bumpGs s2 stream, n, rfl, ((HI.out.fr0 (by repeat (first | (with_reducible exact Fr.refl _ _) | (with_reducible refine Fr.drewN ?_ _) | (with_reducible refine Fr.drew ?_) | (with_reducible refine Fr.alloc ?_ _)))).step hfl1 (by simp) hbn hs0 hs1 ht0 ht1 (by rw [← HY.out]; exact HNE.out) hu2 HAB.out HSM.out HNX.out hl2 rfl).1.fr0 ((Fr.refl _ _).drew)⟩
theorem skip_any (g : Nat) (s : Gs) (stream tt : Int) (w : World) (hr : RsAt w g s (Rs.held s.abs)) (hs0 : 0 ≤ stream) (hs1 : stream < s.next.length) (ht0 : 0 ≤ tt) (ht1 : tt < 65536) (hlim : Lim s) (hh : Rs.held s.abs < 1000000000) :
    Calls Try.prog 109 #[.pointer (some ⟨g, 0, none⟩), .agg #[.int .u16 stream, .int .u16 tt]] w (SkPost g s (Rs.skip1 s.abs stream tt) w) := by
  cases hq : (Rs.nextOf s.abs stream != tt) with
  | false => exact skip_go g s stream tt w hr hs0 hs1 ht0 ht1 hlim hh hq
  | true =>
    cases hl : Rs.less16 (Rs.nextOf s.abs stream) tt with
    | false => exact skip_keep g s stream tt w hr hs0 hs1 ht0 ht1 hlim hq hl
    | true => exact skip_go2 g s stream tt w hr hs0 hs1 ht0 ht1 hlim hh hq hl
end Go.Proofs.Ytpkbckkminmdmaa
