/- Contract of (*Reasm).waiting. -/
import Derived.Test.YtpkbckkminmdmaaRsW2
import Derived.Test.YtpkbckkminmdmaaRsPure4
namespace Go.Proofs.Ytpkbckkminmdmaa
open Go.RowKit Go.Proofs.YtpkbckkminmdmaaW.PrintWords
attribute [local go_sem] alloc_drewN setCell_drewN isMap_alloc isMap_drew isMap_drewN isMap_setCell cell_setMap frozen_setMap setMap_drew setMap_drewN size_setMap field_piece0 field_data1 field_data3 field_data6

theorem calls_args {P : Program} {f : FuncId} {args args' : Array Value} {w : World} {R : Ending → World → Prop} (h : args = args') (hc : Calls P f args' w R) : Calls P f args w R := h ▸ hc

/-- May a piece be of the message that comes next in a stream? Is that message whole? -/
def cand (L : List Pe) (stream ssn : Int) (e : Pe) : Prop := Rs.fits e.p stream ssn = true ∧ (Rs.whole (L.map (·.p)) e.p).isSome = true
theorem ordered_min (L0 : List Pe) (stream ssn : Int) : ∀ (L : List Pe) (b : Pe), (L.map (·.turn)).Pairwise (· < ·) → b ∈ L → cand L0 stream ssn b → (∀ e ∈ L, cand L0 stream ssn e → b.turn ≤ e.turn) →
    (L.map (·.p)).findSome? (fun p => if Rs.fits p stream ssn then Rs.whole (L0.map (·.p)) p else none) = Rs.whole (L0.map (·.p)) b.p
  | [], _, _, hb, _, _ => by cases hb
  | a :: l, b, hs, hb, hc, hm => by
    have hs' := List.pairwise_cons.1 (show ((a.turn :: l.map (·.turn)).Pairwise (· < ·)) from hs)
    simp only [List.map_cons, List.findSome?_cons]
    by_cases hca : cand L0 stream ssn a
    · have hle := hm a (by simp) hca
      have hab : b = a := by
        rcases List.mem_cons.1 hb with h | h
        · exact h
        · have := hs'.1 b.turn (List.mem_map_of_mem h)
          omega
      subst hab
      rw [if_pos hca.1]
      obtain ⟨l', hl'⟩ := Option.isSome_iff_exists.1 hca.2
      rw [hl']
    · have hne : b ≠ a := fun e => hca (e ▸ hc)
      have hbl : b ∈ l := by
        rcases List.mem_cons.1 hb with h | h
        · exact absurd h hne
        · exact h
      have hnone : (if Rs.fits a.p stream ssn then Rs.whole (L0.map (·.p)) a.p else none) = none := by
        by_cases hf : Rs.fits a.p stream ssn = true
        · rw [if_pos hf]
          cases hw : Rs.whole (L0.map (·.p)) a.p with
          | none => rfl
          | some x => exact absurd ⟨hf, by rw [hw]; rfl⟩ hca
        · rw [if_neg hf]
      rw [hnone]
      exact ordered_min L0 stream ssn l b hs'.2 hbl hc (fun e he => hm e (by simp [he]))
theorem ordered_none (L0 : List Pe) (stream ssn : Int) : ∀ (L : List Pe), (∀ e ∈ L, ¬ cand L0 stream ssn e) →
    (L.map (·.p)).findSome? (fun p => if Rs.fits p stream ssn then Rs.whole (L0.map (·.p)) p else none) = none
  | [], _ => rfl
  | a :: l, h => by
    simp only [List.map_cons, List.findSome?_cons]
    have hnone : (if Rs.fits a.p stream ssn then Rs.whole (L0.map (·.p)) a.p else none) = none := by
      by_cases hf : Rs.fits a.p stream ssn = true
      · rw [if_pos hf]
        cases hw : Rs.whole (L0.map (·.p)) a.p with
        | none => rfl
        | some x => exact absurd ⟨hf, by rw [hw]; rfl⟩ (h a (by simp))
      · rw [if_neg hf]
    rw [hnone]
    exact ordered_none L0 stream ssn l (fun e he => h e (by simp [he]))

/-- What the walk over the map has found. -/
structure Best (L : List Pe) (stream ssn : Int) (seen : Array Nat) (best : Option Pe) : Prop where
  mem : ∀ b, best = some b → b ∈ L ∧ cand L stream ssn b
  min : ∀ e ∈ L, e.born ∈ seen → cand L stream ssn e → ∃ b, best = some b ∧ b.turn ≤ e.turn
def turnOf : Option Pe → Int
  | none => -1
  | some b => b.turn
def atOf : Option Pe → Int
  | none => 0
  | some b => b.p.tsn
theorem Best.skip {L : List Pe} {stream ssn : Int} {seen : Array Nat} {best : Option Pe} (h : Best L stream ssn seen best) {e : Pe} (hn : (L.map (·.born)).Pairwise (· < ·)) (he : e ∈ L) (hs : cand L stream ssn e → ∃ b, best = some b ∧ b.turn ≤ e.turn) : Best L stream ssn (seen.push e.born) best := by
  refine ⟨h.mem, fun x hx hxs hc => ?_⟩
  rcases Array.mem_push.1 hxs with hxs | hxs
  · exact h.min x hx hxs hc
  · have : x = e := born_uniq hn hx he hxs
    subst this
    exact hs hc
where
  born_uniq {L : List Pe} (hn : (L.map (·.born)).Pairwise (· < ·)) {x e : Pe} (hx : x ∈ L) (he : e ∈ L) (h : x.born = e.born) : x = e := by
    induction L with
    | nil => cases hx
    | cons a l ih =>
      have hn' := List.pairwise_cons.1 (show ((a.born :: l.map (·.born)).Pairwise (· < ·)) from hn)
      rcases List.mem_cons.1 hx with hx1 | hx1
      · rcases List.mem_cons.1 he with he1 | he1
        · rw [hx1, he1]
        · have h1 := hn'.1 e.born (List.mem_map_of_mem (f := (·.born)) he1)
          rw [hx1] at h
          exact absurd h (Nat.ne_of_lt h1)
      · rcases List.mem_cons.1 he with he1 | he1
        · have h1 := hn'.1 x.born (List.mem_map_of_mem (f := (·.born)) hx1)
          rw [he1] at h
          exact absurd h.symm (Nat.ne_of_lt h1)
        · exact ih hn'.2 hx1 he1
theorem Best.take {L : List Pe} {stream ssn : Int} {seen : Array Nat} {best : Option Pe} (h : Best L stream ssn seen best) {e : Pe} (hn : (L.map (·.born)).Pairwise (· < ·)) (he : e ∈ L) (hc : cand L stream ssn e) (hle : ∀ b, best = some b → e.turn ≤ b.turn) : Best L stream ssn (seen.push e.born) (some e) := by
  refine ⟨fun b hb => by injection hb with hb; subst hb; exact ⟨he, hc⟩, fun x hx hxs hcx => ?_⟩
  rcases Array.mem_push.1 hxs with hxs | hxs
  · obtain ⟨b, hb, hbe⟩ := h.min x hx hxs hcx
    exact ⟨e, rfl, Int.le_trans (hle b hb) hbe⟩
  · have : x = e := Best.skip.born_uniq hn hx he hxs
    subst this
    exact ⟨x, rfl, Int.le_refl _⟩
def left (L : List Pe) (seen : Array Nat) : Nat := (L.filter fun e => !seen.contains e.born).length
theorem left_push (L : List Pe) (seen : Array Nat) (e : Pe) (he : e ∈ L) (hs : e.born ∉ seen) : left L (seen.push e.born) < left L seen := by
  unfold left
  have h1 : L.filter (fun x => !(seen.push e.born).contains x.born) = (L.filter fun x => !seen.contains x.born).filter (fun x => !(x.born == e.born)) := by
    rw [List.filter_filter]
    congr 1
    funext x
    rw [Array.contains_push, Bool.not_or, Bool.and_comm]
  rw [h1]
  refine filter_less _ _ e (List.mem_filter.2 ⟨he, ?_⟩) (by simp)
  simpa using hs

/-- The loop of 'waiting'. -/
structure WL (s : Gs) (w : World) (stream ssn : Int) (r : Nat) (seen : Array Nat) (last : Nat) (best : Option Pe) (wr : World) : Prop where
  it : IsIter wr r s.mb s.clk seen last
  cl : s.clk ≤ last
  best : Best s.L stream ssn seen best
  fr : Fr (fun _ => False) w wr
  new : w.heap.size ≤ r

theorem lift_chain {L : List Pe} : ∀ (l' : List Rs.Pc), (∀ x ∈ l', x ∈ L.map (·.p)) → ∃ l : List Pe, l.map (·.p) = l' ∧ ∀ e ∈ l, e ∈ L
  | [], _ => ⟨[], rfl, by simp⟩
  | x :: l', h => by
    obtain ⟨l, h1, h2⟩ := lift_chain l' (fun y hy => h y (by simp [hy]))
    obtain ⟨e, he, hex⟩ := List.mem_map.1 (h x (by simp))
    refine ⟨e :: l, by simp [h1, hex], fun y hy => ?_⟩
    rcases List.mem_cons.1 hy with rfl | hy
    · exact he
    · exact h2 y hy
/-- Within what the walks go. -/
structure Lim (s : Gs) : Prop where
  turns : s.turns ≤ 1000
  by_ : ∀ e ∈ s.L, e.p.bytes.length ≤ 100000
theorem Lim.L {s : Gs} (h : Lim s) (ho : s.Ok) : s.L.length ≤ 1000 := by
  have := h.turns
  have := ho.cnt
  omega
theorem Lim.row {s : Gs} (h : Lim s) (ho : s.Ok) : s.row.length ≤ 1000 := by
  have := h.turns
  have := ho.cnt
  omega
theorem next_cell {s : Gs} {stream : Int} (hs0 : 0 ≤ stream) (hs1 : stream < s.next.length) : (nums .u16 s.next).toArray[stream.toNat]? = some (.int .u16 (Rs.nextOf s.abs stream)) := by
  have hlt : stream.toNat < s.next.length := by omega
  unfold Rs.nextOf Gs.abs nums
  simp [hlt]
theorem dropP_less {s : Gs} {l : List Pe} {f : Int} (hc : Chain s.L l f) : (dropP s.L l).length < s.L.length :=
  filter_less _ s.L (l[0]'hc.pos) (hc.mem _ (List.getElem_mem hc.pos)) (by
    simp only [Bool.not_eq_false']
    rw [List.any_eq_true]
    exact ⟨_, List.getElem_mem hc.pos, by simp⟩)
theorem sum_le {l : List Nat} {b : Nat} (h : ∀ x ∈ l, x ≤ b) : l.sum ≤ l.length * b := by
  induction l with
  | nil => simp
  | cons a l ih =>
    have h1 := h a (by simp)
    have h2 := ih (fun x hx => h x (by simp [hx]))
    simp only [List.sum_cons, List.length_cons, Nat.succ_mul]
    omega
/-- The message of a piece that is whole: its pieces in the map. -/
theorem whole_chain {s : Gs} (hok : s.Ok) (hlim : Lim s) {b : Pe} (hb : b ∈ s.L) {l' : List Rs.Pc} (hw : Rs.whole (s.L.map (·.p)) b.p = some l') :
    ∃ (l : List Pe) (f z : Int) (hpos : 0 < l.length), l.map (·.p) = l' ∧ Chain s.L l f ∧ Rs.ends (s.L.map (·.p)) b.p = (f, z, true) ∧ (l[0]).p.tsn = f ∧ (l[l.length - 1]'(by omega)).p.tsn = z ∧ (l.map (·.p.bytes.length)).sum < 1000000000 ∧ l.length ≤ s.L.length := by
  have hn : ((s.L.map (·.p)).map (·.tsn)).Nodup := by rw [List.map_map]; exact hok.keys
  have hr : ∀ x ∈ s.L.map (·.p), 0 ≤ x.tsn ∧ x.tsn < 4294967296 := by
    intro x hx
    obtain ⟨e, he, rfl⟩ := List.mem_map.1 hx
    exact hok.tsn e he
  have hl : (s.L.map (·.p)).length < 1000000 := by have := hlim.L hok; simp; omega
  rcases Rs.whole_ends hn hr hl (List.mem_map_of_mem (f := (·.p)) hb) with ⟨h1, _⟩ | ⟨l0, f, z, h1, h2, h3, h4, h5, h6, h7, h8, _, _⟩
  · rw [hw] at h1; cases h1
  · rw [hw] at h1
    injection h1 with h1
    subst h1
    obtain ⟨l, hl1, hl2⟩ := lift_chain l' h3
    have hlen : l.length = l'.length := by rw [← hl1]; simp
    have hlL : l.length ≤ s.L.length := by rw [hlen]; simpa using h5
    refine ⟨l, f, z, by omega, hl1, ⟨by omega, hl2, fun i hi => ?_, by have := hlim.L hok; omega⟩, h2, ?_, ?_, ?_, hlL⟩
    · have := h6 i (by omega)
      rw [← this]
      simp [← hl1]
    · rw [← hl1, List.head?_map, List.head?_eq_getElem?, List.getElem?_eq_getElem (by omega)] at h7
      simpa using h7
    · rw [← hl1, List.getLast?_map, List.getLast?_eq_getElem?, List.getElem?_eq_getElem (by omega)] at h8
      simpa using h8
    · have h9 := sum_le (l := l.map (·.p.bytes.length)) (b := 100000) (by
        intro x hx
        obtain ⟨e, he, rfl⟩ := List.mem_map.1 hx
        exact hlim.by_ e (hl2 e he))
      rw [List.length_map] at h9
      have := hlim.L hok
      omega

theorem whole_cases {s : Gs} (hok : s.Ok) (hlim : Lim s) {e : Pe} (he : e ∈ s.L) :
    (Rs.whole (s.L.map (·.p)) e.p = none ∧ Rs.ends (s.L.map (·.p)) e.p = (0, 0, false)) ∨ ∃ f z, (Rs.whole (s.L.map (·.p)) e.p).isSome = true ∧ Rs.ends (s.L.map (·.p)) e.p = (f, z, true) := by
  have hn : ((s.L.map (·.p)).map (·.tsn)).Nodup := by rw [List.map_map]; exact hok.keys
  have hr : ∀ x ∈ s.L.map (·.p), 0 ≤ x.tsn ∧ x.tsn < 4294967296 := by
    intro x hx
    obtain ⟨e, he, rfl⟩ := List.mem_map.1 hx
    exact hok.tsn e he
  have hl : (s.L.map (·.p)).length < 1000000 := by have := hlim.L hok; simp; omega
  rcases Rs.whole_ends hn hr hl (List.mem_map_of_mem (f := (·.p)) he) with h1 | ⟨l0, f, z, h1, h2, _⟩
  · exact .inl h1
  · exact .inr ⟨f, z, by rw [h1]; rfl, h2⟩
theorem Fr.lt_of {S : Nat → Prop} {w w' : World} (h : Fr S w w') {k : Nat} (hk : k < w.heap.size) : k < w'.heap.size := Nat.lt_of_lt_of_le hk h.size

theorem whole_boxed {g : Nat} {s : Gs} {h : Int} {w1 : World} (hr : RsAt w1 g s h) (hlim : Lim s) {e : Pe} (he : e ∈ s.L) (cs : Array Value) (n : Nat) (hcs : cs = pcells e) :
    Calls Try.prog 105 #[.pointer (some ⟨g, 0, none⟩), .agg cs] ((w1.alloc (.cells cs 151)).drewN n) fun e' w' => e' = .returned (.tuple #[.int .u32 (Rs.ends (s.L.map (·.p)) e.p).1, .int .u32 (Rs.ends (s.L.map (·.p)) e.p).2.1, .bool (Rs.ends (s.L.map (·.p)) e.p).2.2]) ∧
      Fr (fun _ => False) w1 w' ∧ Blk w' w1.heap.size 151 (pcells e) := by
  subst hcs
  have hA : Fr (fun _ => False) w1 ((w1.alloc (.cells (pcells e) 151)).drewN n) := ((Fr.refl _ _).alloc _).drewN _
  have hb : Blk ((w1.alloc (.cells (pcells e) 151)).drewN n) w1.heap.size 151 (pcells e) := (Blk.new _ _ _).drewN _
  have her := hr.ok.tsn e he
  refine (whole_any g s.mb s.clk s.L e _ (hA.lt_of hr.blk.lt) ((hA.cell hr.blk.lt (fun h => h)).trans (hr.blk.cell 0)) (hr.inn.map.fr hA (fun h => h)) he hr.ok.keys her.1 her.2 (by have := hlim.L hr.ok; omega)).mono ?_
  rintro e' w' ⟨rfl, hf⟩
  exact ⟨rfl, hA.trans hf, hb.fr hf (fun h => h)⟩

def WaitPost (g : Nat) (s : Gs) (h stream : Int) (w : World) (e : Ending) (w' : World) : Prop :=
  (Rs.waiting s.abs stream = none ∧ e = .returned (.bool false) ∧ Fr (fun _ => False) w w') ∨
  ∃ s' st', Rs.waiting s.abs stream = some st' ∧ e = .returned (.bool true) ∧ Upd g s s' h w w' ∧ s'.abs = st' ∧ s'.turns = s.turns ∧ s'.mb = s.mb ∧ s'.nb = s.nb ∧ s'.clk = s.clk ∧ s'.next = s.next ∧ Lim s' ∧ s'.L.length < s.L.length

set_option maxRecDepth 100000 in
set_option maxHeartbeats 4000000 in
theorem waiting_any (g : Nat) (s : Gs) (h stream : Int) (w : World) (hr : RsAt w g s h) (hs0 : 0 ≤ stream) (hs1 : stream < s.next.length) (hlim : Lim s) :
    Calls Try.prog 140 #[.pointer (some ⟨g, 0, none⟩), .int .u16 stream] w (WaitPost g s h stream w) := by
  have hgl := hr.blk.lt
  have cg := hr.blk.cell
  have hm := hr.inn.map
  have hml := hm.lt
  have hn16 := hr.ok.nxl
  have hst2 : stream < 65536 := by omega
  have hrange : Sem.run Try.prog (Instr.range 140 (.map (some s.mb))) w = .ok (.pointer (some ⟨w.heap.size, 0, none⟩)) (w.alloc (.mapIter (some s.mb) s.clk #[] s.clk)) := run_range_ents Try.underlying140 _ w hm
  unfold gcells at cg
  go_enter Try.func140, Try.ntmps140
  go_wp2_with fail
  go_loopg [5, 6] (left s.L #[]) (fun k a t wr => ∃ (seen : Array Nat) (last : Nat) (best : Option Pe), k = left s.L seen ∧ a = .int .u32 (atOf best) ∧ t = .int .i64 (turnOf best) ∧ WL s w stream (Rs.nextOf s.abs stream) w.heap.size seen last best wr)
  case atStart => exact ⟨#[], s.clk, none, rfl, rfl, rfl, ⟨heap_alloc_new _ _, Nat.le_refl _, ⟨fun b hb => (by cases hb), fun e _ he => absurd he (Array.not_mem_empty _)⟩, (Fr.refl _ _).alloc _, Nat.le_refl _⟩⟩
  case round =>
    obtain ⟨seen, last, best, hk, rfl, rfl, hI⟩ := hrel
    have HK := Lib.hid hk
    clear hk hrange
    have hmr : IsMap wr s.mb (ents (s.L.map Pe.en)) s.clk := hm.fr hI.fr (fun h => h)
    have hRr := hr.fr0 hI.fr
    rcases next_cases (P := Try.prog) wr 0 w.heap.size s.mb s.clk last seen (s.L.map Pe.en) s.clk hI.it hmr (by
      intro x hx
      obtain ⟨e, he, rfl⟩ := List.mem_map.1 hx
      exact hr.ok.bornlt e he) hI.cl (by
      rw [List.map_map]
      exact hr.ok.born.imp (fun h => Nat.ne_of_lt h)) with ⟨hall, hrun⟩ | ⟨x, hx, hns, w1, hrun, hent, hit1, hf1, hz1⟩
    · have hall' : ∀ e ∈ s.L, e.born ∈ seen := fun e he => hall _ (List.mem_map_of_mem he)
      cases best with
      | none =>
        have hw : Rs.waiting s.abs stream = none := by
          unfold Rs.waiting Rs.ordered
          rw [show s.abs.L = s.L.map (·.p) from rfl, ordered_none s.L stream _ s.L (fun e he hc => by
            obtain ⟨b, hb, _⟩ := hI.best.min e he (hall' e he) hc
            cases hb)]
          rfl
        have HW := Lib.hid hw
        clear hw
        simp only [turnOf]
        go_wp2_with fail
        go_ret
        exact .inl ⟨HW.out, rfl, hI.fr⟩
      | some b =>
        obtain ⟨hbL, hbc⟩ := hI.best.mem b rfl
        obtain ⟨l', hl'⟩ := Option.isSome_iff_exists.1 hbc.2
        have hw : Rs.waiting s.abs stream = some (Rs.ready s.abs l') := by
          unfold Rs.waiting Rs.ordered
          rw [show s.abs.L = s.L.map (·.p) from rfl, ordered_min s.L stream _ s.L b hr.ok.turn hbL hbc (fun e he hc => by
            obtain ⟨b', hb', hle⟩ := hI.best.min e he (hall' e he) hc
            injection hb' with hb'
            subst hb'
            exact hle), hl']
          rfl
        obtain ⟨l, f, z, hpos, hlm, hch, hends, hfst, hlst, hsum, hlle⟩ := whole_chain hr.ok hlim hbL hl'
        have HW := Lib.hid hw
        have HE := Lib.hid hends
        have HF := Lib.hid hfst
        have HL := Lib.hid hlst
        have HM := Lib.hid hlm
        have hbt := (hr.ok.turnlt b hbL).1
        have hbr := hr.ok.tsn b hbL
        have hfindb := find_of_mem hr.ok.keys hbL
        have hrun2 : ∀ W : World, IsMap W s.mb (ents (s.L.map Pe.en)) s.clk → Sem.run Try.prog (Instr.lookup 140 (.map (some s.mb)) (.int .u32 b.p.tsn) false) W = .ok (.agg (pcells b)) W := fun W hW =>
          run_lookup_in Try.underlying140 Try.underlying29 _ b.p.tsn b.en (by rw [find_en, hfindb]; rfl) false W hW
        clear hw hends hfst hlst hlm hl' hfindb
        have cgr := hRr.blk.cell
        have hgr := hRr.blk.lt
        unfold gcells at cgr
        have hcg0 : wr.cell? ⟨g, 0, none⟩ = some (.map (some s.mb)) := cgr 0
        simp only [turnOf, atOf]
        go_wp2_with (first
          | (go_at_call 105; refine (whole_any g s.mb s.clk s.L b _ hgr hcg0 hmr hbL hr.ok.keys hbr.1 hbr.2 (by have := hlim.L hr.ok; omega)).mono ?_; rintro e w2 ⟨rfl, hf2⟩; rw [HE.out])
          | (go_at_call 106; refine (ready_any g s h l f z _ (hRr.fr0 hf2) hch HF.out HL.out hsum (by have := hlim.row hr.ok; omega)).mono ?_; rintro e w3 ⟨rfl, s', hu, hab, ht, h1, h2, h3, h4, h5⟩))
        go_ret
        refine .inr ⟨s', Rs.ready s.abs l', HW.out, rfl, ?_, by rw [hab, HM.out], ht, h1, h2, h3, h5, ?_, ?_⟩
        · exact hu.pre (hI.fr.trans hf2)
        · refine ⟨by rw [ht]; exact hlim.turns, fun e he => hlim.by_ e ?_⟩
          rw [h4] at he
          exact (List.mem_filter.1 he).1
        · rw [h4]
          exact dropP_less hch
    · obtain ⟨e, he, rfl⟩ := List.mem_map.1 hx
      simp only [Pe.en] at hrun hent hns hit1
      unfold pcells at hrun hent
      have hRr1 := hRr.fr hf1 (fun k hk e => by
        have := hr.foot_lt hk
        have := hI.new
        have := hI.fr.size
        subst e
        omega)
      clear hz1
      have c1 := hRr1.blk.cell
      have l1 := hRr1.blk.lt
      have l1s := hRr1.blk.lts
      unfold gcells at c1
      have cn := hRr1.inn.nxt.cell stream.toNat
      have ln := hRr1.inn.nxt.lt
      have lns := hRr1.inn.nxt.lts
      rw [next_cell hs0 hs1] at cn
      have hW1 : Fr (fun _ => False) w w1 := hI.fr.then hf1 (fun i e => .inr (by rw [e]; exact Nat.le_refl _))
      cases hun : e.p.un with
      | true =>
        rw [hun] at hrun hent
        have HUN := Lib.hid hun
        clear hun
        go_wp2_with fail
        go_quiet (fail)
        go_wp2_with fail
        go_roundg (left s.L (seen.push e.born))
        case measure =>
          rw [HK.out]
          exact left_push s.L seen e he hns
        case rel =>
          refine ⟨_, _, best, rfl, rfl, rfl, ⟨hit1.fr (S := fun _ => False) (((Fr.refl _ w1).alloc _).drewN _) (fun h => h), Nat.le_refl _, ?_, hW1.trans (((Fr.refl _ w1).alloc _).drewN _), Nat.le_refl _⟩⟩
          exact hI.best.skip hr.ok.born he (fun hc => absurd hc.1 (by simp [Rs.fits, HUN.out]))
      | false =>
        rw [hun] at hrun hent
        have HUN := Lib.hid hun
        clear hun
        by_cases hst : e.p.stream = stream
        · have hq1 : (e.p.stream != stream) = false := by simp [hst]
          have HST := Lib.hid hst
          clear hst
          by_cases hss : e.p.ssn = Rs.nextOf s.abs stream
          · have hq2 : (e.p.ssn != Rs.nextOf s.abs stream) = false := by simp [hss]
            have HSS := Lib.hid hss
            clear hss
            have hfit : Rs.fits e.p stream (Rs.nextOf s.abs stream) = true := by simp [Rs.fits, HUN.out, HST.out, HSS.out]
            have HFIT := Lib.hid hfit
            clear hfit
            have hturn := hr.ok.turnlt e he
            by_cases hbt : 0 ≤ turnOf best ∧ turnOf best < e.turn
            · obtain ⟨hb1, hb2⟩ := hbt
              have hd1 : decide (0 ≤ turnOf best) = true := decide_eq_true hb1
              have hd2 : decide (turnOf best < e.turn) = true := decide_eq_true hb2
              have hbb : ∃ b, best = some b ∧ b.turn ≤ e.turn := by
                cases best with
                | none => simp [turnOf] at hb1
                | some b => exact ⟨b, rfl, Int.le_of_lt hb2⟩
              have HBB := Lib.hid hbb
              clear hbb
              go_wp2_with fail
              go_quiet (fail)
              go_wp2_with fail
              go_roundg (left s.L (seen.push e.born))
              case measure =>
                rw [HK.out]
                exact left_push s.L seen e he hns
              case rel =>
                refine ⟨_, _, best, rfl, rfl, rfl, ⟨hit1.fr (S := fun _ => False) (((Fr.refl _ w1).alloc _).drewN _) (fun h => h), Nat.le_refl _, ?_, hW1.trans (((Fr.refl _ w1).alloc _).drewN _), Nat.le_refl _⟩⟩
                exact hI.best.skip hr.ok.born he (fun _ => HBB.out)
            · have hor : turnOf best < 0 ∨ (0 ≤ turnOf best ∧ e.turn ≤ turnOf best) := by omega
              have hbb : ∀ b, best = some b → e.turn ≤ b.turn := by
                intro b hb
                subst hb
                have := (hr.ok.turnlt b (hI.best.mem b rfl).1).1
                simp only [turnOf] at hor
                omega
              have HBB := Lib.hid hbb
              clear hbb hbt
              rcases hor with hor | ⟨hor1, hor2⟩
              · have hd1 : decide (0 ≤ turnOf best) = false := decide_eq_false (by omega)
                go_wp2_with fail
                go_quiet (fail)
                have her := hr.ok.tsn e he
                have hwcase := whole_cases hr.ok hlim he
                rcases hwcase with ⟨hwn, hends⟩ | ⟨f, z, hws, hends⟩
                · have HE := Lib.hid hends
                  clear hends
                  go_wp2_with (go_at_call 105; refine (whole_boxed hRr1 hlim he _ _ (by unfold pcells; rw [HUN.out])).mono ?_; rintro e2 w2 ⟨rfl, hA2, hB2⟩; rw [HE.out]; have cB2 := hB2.cell; unfold pcells at cB2)
                  go_roundg (left s.L (seen.push e.born))
                  case measure =>
                    rw [HK.out]
                    exact left_push s.L seen e he hns
                  case rel =>
                    refine ⟨_, _, best, rfl, rfl, rfl, ⟨hit1.fr hA2 (fun h => h), Nat.le_refl _, ?_, hW1.trans hA2, Nat.le_refl _⟩⟩
                    exact hI.best.skip hr.ok.born he (fun hc => absurd hc.2 (by rw [hwn]; simp))
                · have HE := Lib.hid hends
                  clear hends
                  go_wp2_with (go_at_call 105; refine (whole_boxed hRr1 hlim he _ _ (by unfold pcells; rw [HUN.out])).mono ?_; rintro e2 w2 ⟨rfl, hA2, hB2⟩; rw [HE.out]; have cB2 := hB2.cell; unfold pcells at cB2)
                  go_quiet (fail)
                  go_wp2_with fail
                  go_roundg (left s.L (seen.push e.born))
                  case measure =>
                    rw [HK.out]
                    exact left_push s.L seen e he hns
                  case rel =>
                    refine ⟨_, _, some e, rfl, rfl, rfl, ⟨hit1.fr (S := fun _ => False) (hA2.drewN _) (fun h => h), Nat.le_refl _, ?_, hW1.trans (hA2.drewN _), Nat.le_refl _⟩⟩
                    exact hI.best.take hr.ok.born he ⟨HFIT.out, hws⟩ HBB.out
              · have hd1 : decide (0 ≤ turnOf best) = true := decide_eq_true hor1
                have hd2 : decide (turnOf best < e.turn) = false := decide_eq_false (by omega)
                go_wp2_with fail
                go_quiet (fail)
                have her := hr.ok.tsn e he
                have hwcase := whole_cases hr.ok hlim he
                rcases hwcase with ⟨hwn, hends⟩ | ⟨f, z, hws, hends⟩
                · have HE := Lib.hid hends
                  clear hends
                  go_wp2_with (go_at_call 105; refine (whole_boxed hRr1 hlim he _ _ (by unfold pcells; rw [HUN.out])).mono ?_; rintro e2 w2 ⟨rfl, hA2, hB2⟩; rw [HE.out]; have cB2 := hB2.cell; unfold pcells at cB2)
                  go_roundg (left s.L (seen.push e.born))
                  case measure =>
                    rw [HK.out]
                    exact left_push s.L seen e he hns
                  case rel =>
                    refine ⟨_, _, best, rfl, rfl, rfl, ⟨hit1.fr hA2 (fun h => h), Nat.le_refl _, ?_, hW1.trans hA2, Nat.le_refl _⟩⟩
                    exact hI.best.skip hr.ok.born he (fun hc => absurd hc.2 (by rw [hwn]; simp))
                · have HE := Lib.hid hends
                  clear hends
                  go_wp2_with (go_at_call 105; refine (whole_boxed hRr1 hlim he _ _ (by unfold pcells; rw [HUN.out])).mono ?_; rintro e2 w2 ⟨rfl, hA2, hB2⟩; rw [HE.out]; have cB2 := hB2.cell; unfold pcells at cB2)
                  go_quiet (fail)
                  go_wp2_with fail
                  go_roundg (left s.L (seen.push e.born))
                  case measure =>
                    rw [HK.out]
                    exact left_push s.L seen e he hns
                  case rel =>
                    refine ⟨_, _, some e, rfl, rfl, rfl, ⟨hit1.fr (S := fun _ => False) (hA2.drewN _) (fun h => h), Nat.le_refl _, ?_, hW1.trans (hA2.drewN _), Nat.le_refl _⟩⟩
                    exact hI.best.take hr.ok.born he ⟨HFIT.out, hws⟩ HBB.out
          · have hq2 : (e.p.ssn != Rs.nextOf s.abs stream) = true := by simp [hss]
            have HSS := Lib.hid hss
            clear hss
            go_wp2_with fail
            go_quiet (fail)
            go_wp2_with fail
            go_roundg (left s.L (seen.push e.born))
            case measure =>
              rw [HK.out]
              exact left_push s.L seen e he hns
            case rel =>
              refine ⟨_, _, best, rfl, rfl, rfl, ⟨hit1.fr (S := fun _ => False) (((Fr.refl _ w1).alloc _).drewN _) (fun h => h), Nat.le_refl _, ?_, hW1.trans (((Fr.refl _ w1).alloc _).drewN _), Nat.le_refl _⟩⟩
              exact hI.best.skip hr.ok.born he (fun hc => absurd hc.1 (by simp [Rs.fits, HSS.out]))
        · have hq1 : (e.p.stream != stream) = true := by simp [hst]
          have HST := Lib.hid hst
          clear hst
          go_wp2_with fail
          go_quiet (fail)
          go_wp2_with fail
          go_roundg (left s.L (seen.push e.born))
          case measure =>
            rw [HK.out]
            exact left_push s.L seen e he hns
          case rel =>
            refine ⟨_, _, best, rfl, rfl, rfl, ⟨hit1.fr (S := fun _ => False) (((Fr.refl _ w1).alloc _).drewN _) (fun h => h), Nat.le_refl _, ?_, hW1.trans (((Fr.refl _ w1).alloc _).drewN _), Nat.le_refl _⟩⟩
            exact hI.best.skip hr.ok.born he (fun hc => absurd hc.1 (by simp [Rs.fits, HST.out]))
end Go.Proofs.Ytpkbckkminmdmaa
