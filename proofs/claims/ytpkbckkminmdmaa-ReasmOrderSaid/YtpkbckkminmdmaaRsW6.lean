/- Contract of (*Reasm).Put: a piece that is taken. -/
import Derived.Test.YtpkbckkminmdmaaRsW5
namespace Go.Proofs.Ytpkbckkminmdmaa
open Go.RowKit Go.Proofs.YtpkbckkminmdmaaW.PrintWords
attribute [local go_sem] alloc_drewN setCell_drewN isMap_alloc isMap_drew isMap_drewN isMap_setCell cell_setMap frozen_setMap setMap_drew setMap_drewN size_setMap field_piece0 field_data1 field_data3 field_data6

/-- The piece is laid into the map. -/
def newPe (s : Gs) (d : Rs.Pc) (g1 cap1 : Nat) : Pe := ⟨d, g1, cap1, s.turns, s.clk⟩
def putGs (s : Gs) (d : Rs.Pc) (g1 cap1 : Nat) : Gs := { s with L := s.L ++ [newPe s d g1 cap1], clk := s.clk + 1, turns := s.turns + 1 }

theorem Lim.put {s : Gs} {d : Rs.Pc} {g1 cap1 : Nat} (ht : s.turns < 1000) (hlim : ∀ x ∈ s.L, x.p.bytes.length ≤ 100000) (hn : d.bytes.length ≤ 100000) : Lim (putGs s d g1 cap1) := by
  refine ⟨?_, fun x hx => ?_⟩
  · show s.turns + 1 ≤ 1000
    omega
  · rcases List.mem_append.1 hx with hx | hx
    · exact hlim x hx
    · rw [List.mem_singleton.1 hx]
      exact hn
theorem putGs_abs (s : Gs) (d : Rs.Pc) (g1 cap1 : Nat) : (putGs s d g1 cap1).abs = { s.abs with L := s.abs.L ++ [d] } := by
  unfold putGs Gs.abs
  simp [newPe]
theorem pairwise_snoc {l : List Nat} {x : Nat} (h : l.Pairwise (· < ·)) (hx : ∀ y ∈ l, y < x) : (l ++ [x]).Pairwise (· < ·) := by
  rw [List.pairwise_append]
  exact ⟨h, by simp, fun a ha b hb => by rw [List.mem_singleton.1 hb]; exact hx a ha⟩
theorem pairwise_snoc_int {l : List Int} {x : Int} (h : l.Pairwise (· < ·)) (hx : ∀ y ∈ l, y < x) : (l ++ [x]).Pairwise (· < ·) := by
  rw [List.pairwise_append]
  exact ⟨h, by simp, fun a ha b hb => by rw [List.mem_singleton.1 hb]; exact hx a ha⟩
/-- Behind the map's store. -/
theorem put_mem {g : Nat} {s : Gs} {h h' : Int} {d : Rs.Pc} {g1 cap1 wb : Nat} {V : Value} {w0 w2 : World} {cs : Array Value} (hrw : RsAt w0 g s h) (hfr : Fr (fun _ => False) w0 w2) (hby : Byt w2 g1 cap1 d.bytes) (hge : w0.heap.size ≤ g1) (hwb : w0.heap.size ≤ wb) (hg1 : g1 ≠ wb)
    (h0 : 0 ≤ d.stream) (h1 : d.stream < 65536) (hs0 : 0 ≤ d.ssn) (hs1 : d.ssn < 65536) (ht0 : 0 ≤ d.tsn) (ht1 : d.tsn < 4294967296) (hpos : 0 < d.bytes.length) (hne : s.L.find? (fun e => e.p.tsn == d.tsn) = none) (hcs : cs = pcells (newPe s d g1 cap1)) :
    Upd g s (putGs s d g1 cap1) h' w0 (setMap ((((w2.setCell ⟨wb, 6, none⟩ V).setCell ⟨g, 1, none⟩ (.int .i64 (s.turns + 1))).setCell ⟨g, 4, none⟩ (.int .i64 h')).alloc (.cells cs 151)) s.mb (ents (s.L.map Pe.en ++ [⟨d.tsn, .agg cs, s.clk⟩])) (s.clk + 1)) := by
  subst hcs
  have hwf : Fr (fun _ => False) w0 (w2.setCell ⟨wb, 6, none⟩ V) := hfr.setCell (.inr hwb) _
  have hr0 : RsAt (w2.setCell ⟨wb, 6, none⟩ V) g s h := hrw.fr0 hwf
  have hby0 : Byt (w2.setCell ⟨wb, 6, none⟩ V) g1 cap1 d.bytes := hby.keep (Below.heap_setCell _ _ _ _ hg1)
  generalize w2.setCell ⟨wb, 6, none⟩ V = w at hr0 hby0 hwf
  clear hby hfr
  have hfl : ∀ k, Foot g s k → k < g1 := fun k hk => Nat.lt_of_lt_of_le (hrw.foot_lt hk) hge
  have hmg : s.mb ≠ g := hr0.inn.map.ne_blk hr0.blk
  have hf : Fr (fun k => k = g ∨ k = s.mb) w (setMap (((w.setCell ⟨g, 1, none⟩ (.int .i64 (s.turns + 1))).setCell ⟨g, 4, none⟩ (.int .i64 h')).alloc (.cells (pcells (newPe s d g1 cap1)) 151)) s.mb (ents (s.L.map Pe.en ++ [⟨d.tsn, .agg (pcells (newPe s d g1 cap1)), s.clk⟩])) (s.clk + 1)) :=
    ((((Fr.refl _ _).setAt (.inl (.inl rfl))).setAt (.inl (.inl rfl))).alloc _).setMap (.inl (.inr rfl))
  have hg1g : g1 ≠ g := Nat.ne_of_gt (hfl g (.inl rfl))
  have hg1m : g1 ≠ s.mb := Nat.ne_of_gt (hfl _ (.inr (.inl rfl)))
  refine ⟨⟨?_, ⟨?_, ?_, ?_, ?_, ?_⟩, ?_⟩, ?_, ?_⟩
  · rw [blk_setMap]
    have := ((hr0.blk.set 1 (.int .i64 (s.turns + 1))).set 4 (.int .i64 h')).alloc (.cells (pcells (newPe s d g1 cap1)) 151)
    have e : ((gcells s h).setIfInBounds 1 (.int .i64 (s.turns + 1))).setIfInBounds 4 (.int .i64 h') = gcells (putGs s d g1 cap1) h' := by simp [gcells, putGs]
    rw [e] at this
    exact this
  · have e : (putGs s d g1 cap1).L.map Pe.en = s.L.map Pe.en ++ [⟨d.tsn, .agg (pcells (newPe s d g1 cap1)), s.clk⟩] := by
      unfold putGs
      rw [List.map_append]
      rfl
    show IsMap _ s.mb (ents ((putGs s d g1 cap1).L.map Pe.en)) (s.clk + 1)
    rw [e]
    refine IsMap.set (es := ents (s.L.map Pe.en)) (c := s.clk) ?_ _ _
    rw [isMap_alloc _ (by simpa [World.setCell] using hr0.inn.map.lt), isMap_setCell, isMap_setCell]
    exact hr0.inn.map
  · exact hr0.inn.nxt.fr hf (fun e => by
      rcases e with e | e
      · exact Blk.ne hr0.inn.nxt hr0.blk (by decide) e
      · exact hr0.inn.map.ne_blk hr0.inn.nxt e.symm)
  · refine q_move hr0.inn.row (fun k hk => hf.block k (q_lt hr0.inn.row k hk) (fun e => ?_))
    obtain ⟨_, cells, ht⟩ := q_typed hr0.inn.row k hk
    rcases e with e | e
    · exact Blk.ne (t := 40) (t' := 142) ht hr0.blk (by decide) e
    · exact hr0.inn.map.ne_blk ht e.symm
  · intro e he
    rcases List.mem_append.1 he with he | he
    · have hb := hr0.inn.pcs e he
      obtain ⟨cur, hcur, _⟩ := hb.blk
      exact hb.keep (hf.block _ hb.lt (fun x => by
        rcases x with x | x
        · exact Blk.ne hcur hr0.blk (by decide) x
        · exact hr0.inn.map.ne_blk hcur x.symm))
    · rw [List.mem_singleton.1 he]
      exact hby0.keep (hf.block _ hby0.lt (fun x => by
        rcases x with x | x
        · exact hg1g x
        · exact hg1m x))
  · intro m hm
    have hb := hr0.inn.msg m hm
    obtain ⟨cur, hcur, _⟩ := hb.blk
    exact hb.keep (hf.block _ hb.lt (fun x => by
      rcases x with x | x
      · exact Blk.ne hcur hr0.blk (by decide) x
      · exact hr0.inn.map.ne_blk hcur x.symm))
  · have hok := hr0.ok
    have hmem : ∀ {q : Pe → Prop}, (∀ e ∈ s.L, q e) → q (newPe s d g1 cap1) → ∀ e ∈ (putGs s d g1 cap1).L, q e := by
      intro q h1 h2 e he
      rcases List.mem_append.1 he with he | he
      · exact h1 e he
      · rw [List.mem_singleton.1 he]
        exact h2
    have htn : 0 ≤ s.turns := by have := hok.cnt; omega
    refine ⟨?_, ?_, ?_, hmem (fun e he => Nat.lt_succ_of_lt (hok.bornlt e he)) (Nat.lt_succ_self _), ?_, hmem (fun e he => ⟨(hok.turnlt e he).1, by have := (hok.turnlt e he).2; show _ < s.turns + 1; omega⟩) ⟨htn, by show s.turns < s.turns + 1; omega⟩, hmem hok.tsn ⟨ht0, ht1⟩, hmem hok.strm ⟨h0, h1, hs0, hs1⟩, hok.nxr, hok.nxl, hmem hok.ne hpos, hok.nem, ?_⟩
    · show ((s.L ++ [newPe s d g1 cap1]).map (·.blk) ++ s.row.map (·.blk)).Nodup
      rw [List.map_append, List.append_assoc]
      refine (List.perm_middle (a := g1) (l₁ := s.L.map (·.blk)) (l₂ := s.row.map (·.blk))).nodup_iff.2 ?_
      rw [List.nodup_cons]
      refine ⟨fun hm => ?_, hok.dist⟩
      rcases List.mem_append.1 hm with hm | hm
      · obtain ⟨x, hx, hxe⟩ := List.mem_map.1 hm
        have := hfl _ (.inr (.inr (.inr (.inr (.inl ⟨x, hx, rfl⟩)))))
        omega
      · obtain ⟨x, hx, hxe⟩ := List.mem_map.1 hm
        have := hfl _ (.inr (.inr (.inr (.inr (.inr ⟨x, hx, rfl⟩)))))
        omega
    · show ((s.L ++ [newPe s d g1 cap1]).map (·.p.tsn)).Nodup
      rw [List.map_append, List.nodup_append]
      refine ⟨hok.keys, by simp, fun a ha b hb e => ?_⟩
      rw [List.mem_singleton.1 hb] at e
      obtain ⟨x, hx, hxe⟩ := List.mem_map.1 ha
      have := List.find?_eq_none.1 hne x hx
      exact this (by rw [beq_iff_eq, hxe, e]; rfl)
    · show ((s.L ++ [newPe s d g1 cap1]).map (·.born)).Pairwise (· < ·)
      rw [List.map_append]
      refine pairwise_snoc hok.born (fun y hy => ?_)
      obtain ⟨x, hx, rfl⟩ := List.mem_map.1 hy
      exact hok.bornlt x hx
    · show ((s.L ++ [newPe s d g1 cap1]).map (·.turn)).Pairwise (· < ·)
      rw [List.map_append]
      refine pairwise_snoc_int hok.turn (fun y hy => ?_)
      obtain ⟨x, hx, rfl⟩ := List.mem_map.1 hy
      exact (hok.turnlt x hx).2
    · have := hok.cnt
      show (((s.L ++ [newPe s d g1 cap1]).length + s.row.length : Nat) : Int) ≤ s.turns + 1
      simp
      omega
  · exact (hwf.mono fun _ _ h => h.elim).trans (hf.mono (fun k _ e => by
      rcases e with e | e
      · exact .inl e
      · exact .inr (.inl e)))
  · intro k hk
    rcases hk with e | e | e | e | ⟨x, hx, e⟩ | e
    · exact .inl (.inl e)
    · exact .inl (.inr (.inl e))
    · exact .inl (.inr (.inr (.inl e)))
    · exact .inl (.inr (.inr (.inr (.inl e))))
    · rcases List.mem_append.1 hx with hx | hx
      · exact .inl (.inr (.inr (.inr (.inr (.inl ⟨x, hx, e⟩)))))
      · rw [List.mem_singleton.1 hx] at e
        have e' : g1 = k := e
        exact .inr (e' ▸ hge)
    · exact .inl (.inr (.inr (.inr (.inr (.inr e)))))
theorem clone_at (ad : Addr) (n c : Nat) (bs : List Int) (w W : World) (hcells : ∀ j u, (nums .u8 bs)[j]? = some u → w.cell? (ad.add j) = some u) (hlt : ad.block < w.heap.size) (hl : bs.length = n) (hn : 0 < n) (hmax : n ≤ 1000000) (hF : Fr (fun _ => False) w W) :
    Calls Try.prog 103 #[.slice (some ad) n c] W (ClonePost n bs W) :=
  clone_any ad n c bs W (fun j u hu => (hF.cell (by rw [block_of_add]; exact hlt) (fun h => h)).trans (hcells j u hu)) (hF.lt_of hlt) hl hn hmax

/-- whole at a piece that lies in the map. -/
theorem whole_at {g : Nat} {s : Gs} {h : Int} {W : World} (hr : RsAt W g s h) (hlim : Lim s) {e : Pe} (he : e ∈ s.L) (cs : Array Value) (hcs : cs = pcells e) (f z : Int) (b : Bool) (hE : Rs.ends (s.L.map (·.p)) e.p = (f, z, b)) :
    Calls Try.prog 105 #[.pointer (some ⟨g, 0, none⟩), .agg cs] W fun e' w' => e' = .returned (.tuple #[.int .u32 f, .int .u32 z, .bool b]) ∧ Fr (fun _ => False) W w' := by
  subst hcs
  have her := hr.ok.tsn e he
  have := whole_any g s.mb s.clk s.L e W hr.blk.lt (hr.blk.cell 0) hr.inn.map he hr.ok.keys her.1 her.2 (by have := hlim.L hr.ok; omega)
  rw [hE] at this
  exact this
/-- ready at the ends of a whole message. -/
theorem ready_at {g : Nat} {s : Gs} {h : Int} {W : World} (hr : RsAt W g s h) (hlim : Lim s) {e : Pe} (he : e ∈ s.L) (f z : Int) (hE : Rs.ends (s.L.map (·.p)) e.p = (f, z, true)) {l' : List Rs.Pc} (hW : Rs.whole (s.L.map (·.p)) e.p = some l') :
    Calls Try.prog 106 #[.pointer (some ⟨g, 0, none⟩), .int .u32 f, .int .u32 z] W fun e w' => e = .returned (.tuple #[]) ∧ ∃ s', Upd g s s' h W w' ∧ s'.abs = Rs.ready s.abs l' ∧ Same s s' ∧ Lim s' := by
  obtain ⟨l, f', z', hpos, hlm, hch, hends, hfst, hlst, hsum, hlle⟩ := whole_chain hr.ok hlim he hW
  rw [hE] at hends
  injection hends with h1 h2
  injection h2 with h2 h3
  subst h1
  subst h2
  refine (ready_any g s h l f z _ hr hch hfst hlst hsum (by have := hlim.row hr.ok; omega)).mono ?_
  rintro e' w3 ⟨rfl, s', hu, hab, ht, h1, h2, h3, h4, h5⟩
  refine ⟨rfl, s', hu, by rw [hab, hlm], ⟨ht, h1, h2, h3, by rw [h5]⟩, ⟨by rw [ht]; exact hlim.turns, fun e he => hlim.by_ e ?_⟩⟩
  rw [h4] at he
  exact (List.mem_filter.1 he).1
theorem putGs_mem (s : Gs) (d : Rs.Pc) (g1 cap1 : Nat) : newPe s d g1 cap1 ∈ (putGs s d g1 cap1).L := by
  unfold putGs
  simp
theorem putGs_L (s : Gs) (d : Rs.Pc) (g1 cap1 : Nat) : (putGs s d g1 cap1).L.map (·.p) = s.abs.L ++ [d] := by
  unfold putGs Gs.abs
  simp [newPe]
theorem whole_of_ends {g : Nat} {s : Gs} {h : Int} {W : World} (hr : RsAt W g s h) (hlim : Lim s) {e : Pe} (he : e ∈ s.L) {f z : Int} {b : Bool} (hE : Rs.ends (s.L.map (·.p)) e.p = (f, z, b)) :
    (b = false ∧ Rs.whole (s.L.map (·.p)) e.p = none) ∨ (b = true ∧ ∃ l, Rs.whole (s.L.map (·.p)) e.p = some l) := by
  rcases whole_cases hr.ok hlim he with ⟨h1, h2⟩ | ⟨f', z', h1, h2⟩
  · rw [hE] at h2
    injection h2 with _ h2
    injection h2 with _ h2
    exact .inl ⟨h2, h1⟩
  · rw [hE] at h2
    injection h2 with _ h2
    injection h2 with _ h2
    exact .inr ⟨h2, Option.isSome_iff_exists.1 h1⟩
theorem PutPost.done {g : Nat} {s s' : Gs} {h : Int} {d : Rs.Pc} {w w' : World} {st : Rs.St} (hp : Rs.put s.abs d = (st, 0)) (hu : Upd g s s' (h + d.bytes.length) w w') (hab : s'.abs = st) (hnl : s'.next.length = s.next.length) (ht : s'.turns = s.turns + 1) (hl : Lim s') : PutPost g s h d w (.returned (.int .i64 0)) w' := by
  refine ⟨by rw [hp], s', _, hu, by rw [hp]; exact hab, hnl, by omega, by rw [hp, if_pos rfl], hl.by_⟩

set_option maxRecDepth 100000 in
set_option maxHeartbeats 8000000 in
theorem put_yes (g : Nat) (s : Gs) (h : Int) (d : Rs.Pc) (ad : Addr) (c : Nat) (w : World) (hr : RsAt w g s h) (hlim : ∀ x ∈ s.L, x.p.bytes.length ≤ 100000) (ht : s.turns < 1000) (h0 : 0 ≤ d.stream) (h1 : d.stream < 65536) (hs0 : 0 ≤ d.ssn) (hs1 : d.ssn < 65536) (ht0 : 0 ≤ d.tsn) (ht1 : d.tsn < 4294967296)
    (hn : d.bytes.length ≤ 100000) (hh0 : 0 ≤ h) (hh1 : h < 1000000000) (hcells : ∀ j u, (nums .u8 d.bytes)[j]? = some u → w.cell? (ad.add j) = some u) (hadl : ad.block < w.heap.size)
    (hst : ¬ s.next.length ≤ d.stream.toNat) (hby : ¬ d.bytes.length = 0) (hl : (!d.un && Rs.less16 d.ssn (Rs.nextOf s.abs d.stream)) = false) (hget : Rs.get s.abs.L d.tsn = none) :
    Calls Try.prog 42 #[.pointer (some ⟨g, 0, none⟩), .agg (dcells d (some ad) c)] w (PutPost g s h d w) := by
  have hg := hr.blk.lt
  have hgs := hr.blk.lts
  have cg := hr.blk.cell
  have fg := hr.blk.frozen
  have hm := hr.inn.map
  have hml := hm.lt
  have hms := hm.lts
  have hn16 := hr.ok.nxl
  have hst' : d.stream < (s.next.length : Int) := by omega
  have hb1 : ((d.bytes.length : Int) == 0) = false := by rw [beq_eq_false_iff_ne]; omega
  have hpos : 0 < d.bytes.length := by omega
  have HST := Lib.hid hst
  have HBY := Lib.hid hby
  have HL := Lib.hid hl
  have HGET := Lib.hid hget
  have cn := hr.inn.nxt.cell d.stream.toNat
  rw [next_cell h0 hst'] at cn
  have ln := hr.inn.nxt.lt
  have lns := hr.inn.nxt.lts
  have hne : s.L.find? (fun e => e.p.tsn == d.tsn) = none := by
    have := hget
    rw [show s.abs.L = s.L.map (·.p) from rfl, find_pc] at this
    simpa using this
  rcases look_cases s.mb s.clk s.L d.tsn with ⟨_, hrun⟩ | ⟨y, hy, hgy, _⟩
  rotate_left
  · exact absurd (hget.symm.trans hgy) (by simp)
  have htn : 0 ≤ s.turns := by
    have := hr.ok.cnt
    omega
  have hups : ∀ (v : Value) (W : World), IsMap W s.mb (ents (s.L.map Pe.en)) s.clk → Sem.run Try.prog (Instr.mapUpdate 140 (.map (some s.mb)) (.int .u32 d.tsn) v) W = .ok () (setMap W s.mb (ents (s.L.map Pe.en ++ [⟨d.tsn, v, s.clk⟩])) (s.clk + 1)) := fun v W hW =>
    run_update_new Try.underlying140 Try.underlying29 _ d.tsn v (by rw [find_en, hne]; rfl) W hW
  have HNE := Lib.hid hne
  clear hst hby hl hget hne
  unfold gcells at cg
  unfold dcells
  cases hun : d.un with
  | true =>
    have HUN := Lib.hid hun
    have hput := Rs.put_un HST.out HBY.out HGET.out hun
    have HPUT := Lib.hid hput
    obtain ⟨f, z, b, hends⟩ : ∃ f z b, Rs.ends (s.abs.L ++ [d]) d = (f, z, b) := ⟨_, _, _, rfl⟩
    have HE := Lib.hid hends
    clear hun hput hends
    go_enter Try.func42, Try.ntmps42
    go_wp2_with fail
    go_quiet (fail)
    go_wp2_with fail
    go_quiet (fail)
    go_wp2_with fail
    go_region
    go_wp2_with (go_at_call 103; refine (clone_at ad d.bytes.length c d.bytes w _ hcells hadl rfl hpos (by omega) (by repeat (first | (with_reducible exact Fr.refl _ _) | (with_reducible refine Fr.drewN ?_ _) | (with_reducible refine Fr.drew ?_) | (with_reducible refine Fr.alloc ?_ _)))).mono ?_; rintro e w2 ⟨g1, cap1, rfl, hby1, hf2, hge1, hlt1⟩; have hfa : Fr (fun _ => False) w w2 := Fr.trans (by repeat (first | (with_reducible exact Fr.refl _ _) | (with_reducible refine Fr.drewN ?_ _) | (with_reducible refine Fr.drew ?_) | (with_reducible refine Fr.alloc ?_ _))) hf2; have hfb : Fr (fun _ => False) (w.alloc (.cells #[.int .u32 d.tsn, .int .u16 d.stream, .int .u16 d.ssn, .bool true, .bool d.fi, .bool d.la, .slice (some ad) d.bytes.length c] 33)) w2 := Fr.trans (by repeat (first | (with_reducible exact Fr.refl _ _) | (with_reducible refine Fr.drewN ?_ _) | (with_reducible refine Fr.drew ?_) | (with_reducible refine Fr.alloc ?_ _))) hf2; have hB2 := (Blk.new w _ _).fr hfb (fun h => h); have cB2 := hB2.cell; have fB2 := hB2.frozen; have lB2 := hB2.lt; have lB2s := hB2.lts; have hR2 := hr.fr0 hfa; have c2 := hR2.blk.cell; have f2 := hR2.blk.frozen; have l2 := hR2.blk.lt; have l2s := hR2.blk.lts; have hm2 := hR2.inn.map; have hm2l := hm2.lt; have hm2ls := hm2.lts; have hgne : g ≠ w.heap.size := Nat.ne_of_lt hg; unfold gcells at c2)
    go_region
    go_wp2_with fail
    go_region
    go_wp2_with fail
    go_region
    go_wp2_with fail
    have hge1' : w.heap.size ≤ g1 := Nat.le_of_succ_le (Nat.le_of_succ_le (by simpa using hge1))
    have hg1ne : g1 ≠ w.heap.size := by
      have : w.heap.size + 1 + 1 ≤ g1 := by simpa using hge1
      omega
    have hlimP : Lim (putGs s d g1 cap1) := Lim.put ht hlim hn
    have HCS : #[Value.int .u32 d.tsn, .int .u16 d.stream, .int .u16 d.ssn, .bool true, .bool d.fi, .bool d.la, .slice (some ⟨g1, 0, none⟩) d.bytes.length cap1, .int .i64 s.turns] = pcells (newPe s d g1 cap1) := by
      unfold pcells newPe
      rw [HUN.out]
    cases b with
    | false =>
      go_wp2_with (go_at_call 105; refine (whole_at (s := putGs s d g1 cap1) (h := h + d.bytes.length) (upd_drew (upd_drew (upd_drew (put_mem (V := .slice (some ⟨g1, 0, none⟩) d.bytes.length cap1) (h' := h + d.bytes.length) (wb := w.heap.size) hr hfa hby1 hge1' (Nat.le_refl _) hg1ne h0 h1 hs0 hs1 ht0 ht1 hpos HNE.out HCS)))).at_ hlimP (putGs_mem s d g1 cap1) _ HCS f z false (by rw [putGs_L]; exact HE.out)).mono ?_; rintro e w3 ⟨rfl, hf3⟩)
      go_ret
      refine PutPost.done (st := { s.abs with L := s.abs.L ++ [d] }) ?_ ((upd_drew (upd_drew (upd_drew (put_mem (V := .slice (some ⟨g1, 0, none⟩) d.bytes.length cap1) (h' := h + d.bytes.length) (wb := w.heap.size) hr hfa hby1 hge1' (Nat.le_refl _) hg1ne h0 h1 hs0 hs1 ht0 ht1 hpos HNE.out HCS)))).fr0 hf3) (putGs_abs s d g1 cap1) rfl rfl hlimP
      rcases whole_of_ends (f := f) (z := z) (b := false) (put_mem (V := .slice (some ⟨g1, 0, none⟩) d.bytes.length cap1) (h' := h + d.bytes.length) (wb := w.heap.size) hr hfa hby1 hge1' (Nat.le_refl _) hg1ne h0 h1 hs0 hs1 ht0 ht1 hpos HNE.out HCS).at_ hlimP (putGs_mem s d g1 cap1) (by rw [putGs_L]; exact HE.out) with ⟨_, hw⟩ | ⟨hb, _⟩
      · rw [putGs_L] at hw
        have := HPUT.out
        rw [show newPe s d g1 cap1 = newPe s d g1 cap1 from rfl] at hw
        rw [this, show Rs.whole (s.abs.L ++ [d]) d = none from hw]
      · cases hb
    | true =>
      have hU := upd_drew (upd_drew (upd_drew (put_mem (V := .slice (some ⟨g1, 0, none⟩) d.bytes.length cap1) (h' := h + d.bytes.length) (wb := w.heap.size) hr hfa hby1 hge1' (Nat.le_refl _) hg1ne h0 h1 hs0 hs1 ht0 ht1 hpos HNE.out HCS)))
      have HU := Lib.hid hU
      clear hU
      obtain ⟨l', hw⟩ : ∃ l', Rs.whole ((putGs s d g1 cap1).L.map (·.p)) (newPe s d g1 cap1).p = some l' := by
        rcases whole_of_ends (f := f) (z := z) (b := true) HU.out.at_ hlimP (putGs_mem s d g1 cap1) (by rw [putGs_L]; exact HE.out) with ⟨hb, _⟩ | ⟨_, hw⟩
        · cases hb
        · exact hw
      have HW := Lib.hid hw
      clear hw
      go_wp2_with (first
        | (go_at_call 105; refine (whole_at (s := putGs s d g1 cap1) (h := h + d.bytes.length) HU.out.at_ hlimP (putGs_mem s d g1 cap1) _ HCS f z true (by rw [putGs_L]; exact HE.out)).mono ?_; rintro e w3 ⟨rfl, hf3⟩)
        | (go_at_call 106; refine (ready_at (s := putGs s d g1 cap1) (h := h + d.bytes.length) (HU.out.fr0 hf3).at_ hlimP (putGs_mem s d g1 cap1) f z (by rw [putGs_L]; exact HE.out) HW.out).mono ?_; rintro e w4 ⟨rfl, s', hu, hab, hsame, hlim'⟩))
      go_ret
      refine PutPost.done (st := Rs.ready { s.abs with L := s.abs.L ++ [d] } l') ?_ ((HU.out.fr0 hf3).trans hu) (by rw [hab, putGs_abs]) hsame.next hsame.turns hlim'
      have hw := HW.out
      rw [putGs_L] at hw
      rw [HPUT.out, show Rs.whole (s.abs.L ++ [d]) d = some l' from hw]
  | false =>
    have HUN := Lib.hid hun
    have hput := Rs.put_ord HST.out HBY.out HL.out HGET.out hun
    have hl2 : Rs.less16 d.ssn (Rs.nextOf s.abs d.stream) = false := by
      have := HL.out
      rw [hun] at this
      simpa using this
    have HPUT := Lib.hid hput
    clear hun hput
    go_enter Try.func42, Try.ntmps42
    go_wp2_with fail
    go_quiet (fail)
    go_wp2_with fail
    go_quiet ((go_at_call 102; exact quiet_add_same (less16_any _ _ _)))
    go_wp2_with fail
    go_region
    go_wp2_with (go_at_call 103; refine (clone_at ad d.bytes.length c d.bytes w _ hcells hadl rfl hpos (by omega) (by repeat (first | (with_reducible exact Fr.refl _ _) | (with_reducible refine Fr.drewN ?_ _) | (with_reducible refine Fr.drew ?_) | (with_reducible refine Fr.alloc ?_ _)))).mono ?_; rintro e w2 ⟨g1, cap1, rfl, hby1, hf2, hge1, hlt1⟩; have hfa : Fr (fun _ => False) w w2 := Fr.trans (by repeat (first | (with_reducible exact Fr.refl _ _) | (with_reducible refine Fr.drewN ?_ _) | (with_reducible refine Fr.drew ?_) | (with_reducible refine Fr.alloc ?_ _))) hf2; have hfb : Fr (fun _ => False) (w.alloc (.cells #[.int .u32 d.tsn, .int .u16 d.stream, .int .u16 d.ssn, .bool false, .bool d.fi, .bool d.la, .slice (some ad) d.bytes.length c] 33)) w2 := Fr.trans (by repeat (first | (with_reducible exact Fr.refl _ _) | (with_reducible refine Fr.drewN ?_ _) | (with_reducible refine Fr.drew ?_) | (with_reducible refine Fr.alloc ?_ _))) hf2; have hB2 := (Blk.new w _ _).fr hfb (fun h => h); have cB2 := hB2.cell; have fB2 := hB2.frozen; have lB2 := hB2.lt; have lB2s := hB2.lts; have hR2 := hr.fr0 hfa; have c2 := hR2.blk.cell; have f2 := hR2.blk.frozen; have l2 := hR2.blk.lt; have l2s := hR2.blk.lts; have hm2 := hR2.inn.map; have hm2l := hm2.lt; have hm2ls := hm2.lts; have hgne : g ≠ w.heap.size := Nat.ne_of_lt hg; unfold gcells at c2)
    go_region
    go_wp2_with fail
    go_region
    go_wp2_with fail
    go_region
    go_wp2_with fail
    have hge1' : w.heap.size ≤ g1 := Nat.le_of_succ_le (Nat.le_of_succ_le (by simpa using hge1))
    have hg1ne : g1 ≠ w.heap.size := by
      have : w.heap.size + 1 + 1 ≤ g1 := by simpa using hge1
      omega
    have hlimP : Lim (putGs s d g1 cap1) := Lim.put ht hlim hn
    have HCS : #[Value.int .u32 d.tsn, .int .u16 d.stream, .int .u16 d.ssn, .bool false, .bool d.fi, .bool d.la, .slice (some ⟨g1, 0, none⟩) d.bytes.length cap1, .int .i64 s.turns] = pcells (newPe s d g1 cap1) := by
      unfold pcells newPe
      rw [HUN.out]
    have hU := upd_drew (upd_drew (upd_drew (put_mem (V := .slice (some ⟨g1, 0, none⟩) d.bytes.length cap1) (h' := h + d.bytes.length) (wb := w.heap.size) hr hfa hby1 hge1' (Nat.le_refl _) hg1ne h0 h1 hs0 hs1 ht0 ht1 hpos HNE.out HCS)))
    have HU := Lib.hid hU
    clear hU
    go_wp2_with (go_at_call 104; refine (on_any g (putGs s d g1 cap1) (h + d.bytes.length) d.stream _ HU.out.at_ h0 hst' hlimP).mono ?_; rintro e w3 ⟨rfl, s', hu, hab, hsame, hlim'⟩)
    go_ret
    exact PutPost.done HPUT.out (HU.out.trans hu) (by rw [hab, putGs_abs]) hsame.next hsame.turns hlim'
end Go.Proofs.Ytpkbckkminmdmaa
