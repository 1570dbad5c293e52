/- Contracts of (*Reasm).on and (*Reasm).drop. Contracts of slices.Clone at []byte and of (*Reasm).Put. -/
import Derived.Test.YtpkbckkminmdmaaRsW3
namespace Go.Proofs.Ytpkbckkminmdmaa
open Go.RowKit Go.Proofs.YtpkbckkminmdmaaW.PrintWords
attribute [local go_sem] alloc_drewN setCell_drewN isMap_alloc isMap_drew isMap_drewN isMap_setCell cell_setMap frozen_setMap setMap_drew setMap_drewN size_setMap field_piece0 field_data1 field_data3 field_data6

/-- The number of a stream's next message goes on. -/
def bumpGs (s : Gs) (stream : Int) : Gs := { s with next := s.next.set stream.toNat (Rs.inc16 (Rs.nextOf s.abs stream)) }
theorem bumpGs_abs (s : Gs) (stream : Int) : (bumpGs s stream).abs = Rs.bump s.abs stream := rfl
theorem nums_set (k : IntKind) (l : List Int) (i : Nat) (x : Int) : (nums k l).toArray.setIfInBounds i (.int k x) = (nums k (l.set i x)).toArray := by
  simp [nums, List.map_set]
theorem bump_upd {g : Nat} {s : Gs} {h stream : Int} {w : World} (hr : RsAt w g s h) (v : Value) (hv : v = .int .u16 (Rs.inc16 (Rs.nextOf s.abs stream))) :
    Upd g s (bumpGs s stream) h w (w.setCell ⟨s.nb, stream.toNat, none⟩ v) := by
  subst hv
  have hgn : g ≠ s.nb := Blk.ne hr.blk hr.inn.nxt (by decide)
  have hf : Fr (· = s.nb) w (w.setCell ⟨s.nb, stream.toNat, none⟩ (.int .u16 (Rs.inc16 (Rs.nextOf s.abs stream)))) := (Fr.refl _ _).setOne
  have hlen : (bumpGs s stream).next.length = s.next.length := by simp [bumpGs]
  refine ⟨⟨?_, ⟨?_, ?_, ?_, ?_, ?_⟩, ?_⟩, ?_, ?_⟩
  · have := hr.blk.fr hf (fun e => hgn e)
    have e : gcells (bumpGs s stream) h = gcells s h := by unfold gcells; rw [hlen]; rfl
    rw [e]
    exact this
  · exact hr.inn.map.fr hf (fun e => hr.inn.map.ne_blk hr.inn.nxt e)
  · have := hr.inn.nxt.set stream.toNat (.int .u16 (Rs.inc16 (Rs.nextOf s.abs stream)))
    rw [nums_set] at this
    exact this
  · refine q_move hr.inn.row (fun k hk => hf.block k (q_lt hr.inn.row k hk) (fun e => ?_))
    obtain ⟨_, cells, ht⟩ := q_typed hr.inn.row k hk
    exact Blk.ne (t := 40) (t' := 30) ht hr.inn.nxt (by decide) e
  · intro e he
    have hb := hr.inn.pcs e he
    obtain ⟨cur, hcur, _⟩ := hb.blk
    exact hb.keep (hf.block _ hb.lt (fun x => Blk.ne hcur hr.inn.nxt (by decide) x))
  · intro m hm
    have hb := hr.inn.msg m hm
    obtain ⟨cur, hcur, _⟩ := hb.blk
    exact hb.keep (hf.block _ hb.lt (fun x => Blk.ne hcur hr.inn.nxt (by decide) x))
  · refine ⟨hr.ok.dist, hr.ok.keys, hr.ok.born, hr.ok.bornlt, hr.ok.turn, hr.ok.turnlt, hr.ok.tsn, hr.ok.strm, ?_, by rw [hlen]; exact hr.ok.nxl, hr.ok.ne, hr.ok.nem, hr.ok.cnt⟩
    intro x hx
    rcases List.mem_or_eq_of_mem_set hx with hx | rfl
    · exact hr.ok.nxr x hx
    · unfold Rs.inc16
      omega
  · exact hf.mono (fun k _ e => .inr (.inr (.inl e)))
  · exact fun k hk => .inl hk

theorem WaitPost.none {g : Nat} {s : Gs} {h stream : Int} {w w' : World} {e : Ending} (hp : WaitPost g s h stream w e w') (hw : Rs.waiting s.abs stream = .none) : e = .returned (.bool false) ∧ Fr (fun _ => False) w w' := by
  rcases hp with ⟨_, h1, h2⟩ | ⟨s', st', h1, _⟩
  · exact ⟨h1, h2⟩
  · rw [hw] at h1; cases h1
theorem WaitPost.some {g : Nat} {s : Gs} {h stream : Int} {w w' : World} {e : Ending} (hp : WaitPost g s h stream w e w') {st : Rs.St} (hw : Rs.waiting s.abs stream = .some st) :
    e = .returned (.bool true) ∧ ∃ s', Upd g s s' h w w' ∧ s'.abs = st ∧ s'.turns = s.turns ∧ s'.mb = s.mb ∧ s'.nb = s.nb ∧ s'.clk = s.clk ∧ s'.next = s.next ∧ Lim s' ∧ s'.L.length < s.L.length := by
  rcases hp with ⟨h1, _⟩ | ⟨s', st', h1, h2, h3, h4, r⟩
  · rw [hw] at h1; cases h1
  · rw [hw] at h1
    injection h1 with h1
    exact ⟨h2, s', h3, h4.trans h1.symm, r⟩

structure Same (s s' : Gs) : Prop where
  turns : s'.turns = s.turns
  mb : s'.mb = s.mb
  nb : s'.nb = s.nb
  clk : s'.clk = s.clk
  next : s'.next.length = s.next.length
theorem Same.refl (s : Gs) : Same s s := ⟨rfl, rfl, rfl, rfl, rfl⟩
theorem Same.trans {a b c : Gs} (h : Same a b) (k : Same b c) : Same a c := ⟨k.turns.trans h.turns, k.mb.trans h.mb, k.nb.trans h.nb, k.clk.trans h.clk, k.next.trans h.next⟩
def OnPost (g : Nat) (s : Gs) (h : Int) (st : Rs.St) (w : World) (e : Ending) (w' : World) : Prop :=
  e = .returned (.tuple #[]) ∧ ∃ s', Upd g s s' h w w' ∧ s'.abs = st ∧ Same s s' ∧ Lim s'

set_option maxRecDepth 100000 in
set_option maxHeartbeats 4000000 in
theorem on_any (g : Nat) (s : Gs) (h stream : Int) (w : World) (hr : RsAt w g s h) (hs0 : 0 ≤ stream) (hs1 : stream < s.next.length) (hlim : Lim s) :
    Calls Try.prog 104 #[.pointer (some ⟨g, 0, none⟩), .int .u16 stream] w (OnPost g s h (Rs.onAll s.abs stream) w) := by
  have hn16 := hr.ok.nxl
  have hst2 : stream < 65536 := by omega
  go_enter Try.func104, Try.ntmps104
  go_wp2_with fail
  go_loopg [] s.L.length (fun k wr => ∃ (s1 : Gs) (n : Nat), k = s1.L.length ∧ s1.L.length < n ∧ Rs.on stream n s1.abs = Rs.onAll s.abs stream ∧ Upd g s s1 h w wr ∧ Same s s1 ∧ Lim s1)
  case atStart => exact ⟨s, s.L.length + 1, rfl, Nat.lt_succ_self _, by show _ = Rs.on stream ((s.L.map (·.p)).length + 1) s.abs; rw [List.length_map], Upd.refl hr, Same.refl s, hlim⟩
  case round =>
    obtain ⟨s1, n, hk, hlt, hon, hu, hsm, hl1⟩ := hrel
    have HK := Lib.hid hk
    have HON := Lib.hid hon
    have HSM := Lib.hid hsm
    clear hk hon hsm
    obtain ⟨n, rfl⟩ : ∃ m, n = m + 1 := ⟨n - 1, by omega⟩
    have hs1' : stream < s1.next.length := by rw [HSM.out.next]; exact hs1
    have hc := waiting_any g s1 h stream wr hu.at_ hs0 hs1' hl1
    have HC := Lib.hid hc
    clear hc
    cases hw : Rs.waiting s1.abs stream with
    | none =>
      have HW := Lib.hid hw
      clear hw
      go_wp2_with (go_at_call 140; refine HC.out.mono ?_; rintro e w1 hp; obtain ⟨rfl, hf⟩ := hp.none HW.out)
      go_end0
      refine ⟨rfl, s1, hu.fr0 hf, ?_, HSM.out, hl1⟩
      rw [← HON.out]
      simp only [Rs.on]
      rw [HW.out]
    | some st =>
      have HW := Lib.hid hw
      clear hw
      go_wp2_with (go_at_call 140; refine HC.out.mono ?_; rintro e w1 hp; obtain ⟨rfl, s2, hu2, hab, t1, t2, t3, t4, t5, hl2, hlt2⟩ := hp.some HW.out; have HAB := Lib.hid hab; have HT := Lib.hid (And.intro t1 (And.intro t2 (And.intro t3 (And.intro t4 t5)))); clear hab t1 t2 t3 t4 t5; have hR2 := hu2.at_; have hlen2 : stream < s2.next.length := (by rw [HT.out.2.2.2.2]; exact hs1'); have hlen16 := hR2.ok.nxl; have c2 := hR2.blk.cell; have cn := hR2.inn.nxt.cell stream.toNat; have fn := hR2.inn.nxt.frozen; rw [next_cell hs0 hlen2] at cn; unfold gcells at c2)
      go_roundg (bumpGs s2 stream).L.length
      case measure =>
        rw [HK.out]
        exact hlt2
      case rel =>
        obtain ⟨t1, t2, t3, t4, t5⟩ := HT.out
        refine ⟨bumpGs s2 stream, n, rfl, ?_, ?_, hu.trans (hu2.trans (bump_upd hR2 _ rfl)), HSM.out.trans ⟨t1, t2, t3, t4, by simp [bumpGs, t5]⟩, ⟨hl2.turns, hl2.by_⟩⟩
        · have : s2.L.length < s1.L.length := hlt2
          show s2.L.length < n
          omega
        · rw [← HON.out]
          simp only [Rs.on]
          rw [HW.out, bumpGs_abs, HAB.out]

/-- A piece is taken out. -/
def dropGs (s : Gs) (t : Int) : Gs := { s with L := s.L.filter fun e => e.p.tsn != t }
theorem drop_upd {g : Nat} {s : Gs} {h h' t : Int} {w : World} (hr : RsAt w g s h) :
    Upd g s (dropGs s t) h' w (setMap (w.setCell ⟨g, 4, none⟩ (.int .i64 h')) s.mb (ents ((dropGs s t).L.map Pe.en)) s.clk) := by
  have hmg : s.mb ≠ g := hr.inn.map.ne_blk hr.blk
  have hf : Fr (fun k => k = g ∨ k = s.mb) w (setMap (w.setCell ⟨g, 4, none⟩ (.int .i64 h')) s.mb (ents ((dropGs s t).L.map Pe.en)) s.clk) := ((Fr.refl _ _).setAt (.inl (.inl rfl))).setMap (.inl (.inr rfl))
  have hsub : (dropGs s t).L.Sublist s.L := List.filter_sublist
  refine ⟨⟨?_, ⟨?_, ?_, ?_, ?_, ?_⟩, ?_⟩, ?_, ?_⟩
  · rw [blk_setMap]
    have := hr.blk.set 4 (.int .i64 h')
    have e : (gcells s h).setIfInBounds 4 (.int .i64 h') = gcells (dropGs s t) h' := by simp [gcells, dropGs]
    rw [e] at this
    exact this
  · exact IsMap.set (show IsMap (w.setCell _ _) _ _ _ by rw [isMap_setCell]; exact hr.inn.map) _ _
  · exact hr.inn.nxt.fr hf (fun e => by
      rcases e with e | e
      · exact Blk.ne hr.inn.nxt hr.blk (by decide) e
      · exact hr.inn.map.ne_blk hr.inn.nxt e.symm)
  · refine q_move hr.inn.row (fun k hk => hf.block k (q_lt hr.inn.row k hk) (fun e => ?_))
    obtain ⟨_, cells, ht⟩ := q_typed hr.inn.row k hk
    rcases e with e | e
    · exact Blk.ne (t := 40) (t' := 142) ht hr.blk (by decide) e
    · exact hr.inn.map.ne_blk ht e.symm
  · intro e he
    have hb := hr.inn.pcs e (hsub.mem he)
    obtain ⟨cur, hcur, _⟩ := hb.blk
    exact hb.keep (hf.block _ hb.lt (fun x => by
      rcases x with x | x
      · exact Blk.ne hcur hr.blk (by decide) x
      · exact hr.inn.map.ne_blk hcur x.symm))
  · intro m hm
    have hb := hr.inn.msg m hm
    obtain ⟨cur, hcur, _⟩ := hb.blk
    exact hb.keep (hf.block _ hb.lt (fun x => by
      rcases x with x | x
      · exact Blk.ne hcur hr.blk (by decide) x
      · exact hr.inn.map.ne_blk hcur x.symm))
  · have hlen := hsub.length_le
    refine ⟨((hsub.map _).append (List.Sublist.refl _)).nodup hr.ok.dist, (hsub.map _).nodup hr.ok.keys, hr.ok.born.sublist (hsub.map _), fun e he => hr.ok.bornlt e (hsub.mem he), hr.ok.turn.sublist (hsub.map _), fun e he => hr.ok.turnlt e (hsub.mem he), fun e he => hr.ok.tsn e (hsub.mem he), fun e he => hr.ok.strm e (hsub.mem he), hr.ok.nxr, hr.ok.nxl, fun e he => hr.ok.ne e (hsub.mem he), hr.ok.nem, ?_⟩
    have := hr.ok.cnt
    show (((dropGs s t).L.length + s.row.length : Nat) : Int) ≤ s.turns
    omega
  · exact hf.mono (fun k _ e => by
      rcases e with e | e
      · exact .inl e
      · exact .inr (.inl e))
  · intro k hk
    rcases hk with e | e | e | e | ⟨x, hx, e⟩ | e
    · exact .inl (.inl e)
    · exact .inl (.inr (.inl e))
    · exact .inl (.inr (.inr (.inl e)))
    · exact .inl (.inr (.inr (.inr (.inl e))))
    · exact .inl (.inr (.inr (.inr (.inr (.inl ⟨x, hsub.mem hx, e⟩)))))
    · exact .inl (.inr (.inr (.inr (.inr (.inr e)))))

theorem upd_drew {g : Nat} {s s' : Gs} {h' : Int} {w w' : World} (u : Upd g s s' h' w w') : Upd g s s' h' w w'.drew := u.fr0 ((Fr.refl _ _).drew)
theorem upd_drewN {g : Nat} {s s' : Gs} {h' : Int} {w w' : World} (u : Upd g s s' h' w w') (n : Nat) : Upd g s s' h' w (w'.drewN n) := u.fr0 ((Fr.refl _ _).drewN n)
set_option maxRecDepth 100000 in
set_option maxHeartbeats 4000000 in
theorem drop_any (g : Nat) (s : Gs) (h : Int) (d : Pe) (w : World) (hr : RsAt w g s h) (hd : d ∈ s.L) (h0 : d.p.bytes.length ≤ h) (h1 : h < 1000000000) :
    Calls Try.prog 142 #[.pointer (some ⟨g, 0, none⟩), .agg (pcells d)] w fun e w' => e = .returned (.tuple #[]) ∧ Upd g s (dropGs s d.p.tsn) (h - d.p.bytes.length) w w' := by
  have hg := hr.blk.lt
  have hgs := hr.blk.lts
  have cg := hr.blk.cell
  have fg := hr.blk.frozen
  have hm := hr.inn.map
  have hml := hm.lt
  have hms := hm.lts
  have hpos := hr.ok.ne d hd
  have hdel : ∀ (ty : TypeId) (W : World), IsMap W s.mb (ents (s.L.map Pe.en)) s.clk → Sem.run Try.prog (Builtin.delete_ #[140, 29] ty #[.map (some s.mb), .int .u32 d.p.tsn]) W = .ok (.tuple #[]) (setMap W s.mb (ents ((dropGs s d.p.tsn).L.map Pe.en)) s.clk) := fun ty W hW => by
    rw [run_delete Try.underlying140 Try.underlying29 _ (by rw [en_keys]; exact hr.ok.keys) _ ty W hW, en_filter]
    rfl
  have hU : Upd g s (dropGs s d.p.tsn) (h - d.p.bytes.length) (w.alloc (.cells (pcells d) 151)) _ := drop_upd (h' := h - d.p.bytes.length) (hr.fr0 ((Fr.refl _ _).alloc _))
  rw [World.setCell_alloc_past _ _ _ _ hg] at hU
  unfold gcells at cg
  have HU := Lib.hid hU
  clear hU
  unfold pcells at HU ⊢
  go_enter Try.func142, Try.ntmps142
  go_wp2_with fail
  go_region
  go_wp2_with fail
  go_region
  go_wp2_with fail
  go_end0
  exact ⟨rfl, Upd.pre ((Fr.refl _ _).alloc _) (upd_drew (upd_drew HU.out))⟩
end Go.Proofs.Ytpkbckkminmdmaa
namespace Go.Proofs.Ytpkbckkminmdmaa
open Go.RowKit Go.Proofs.YtpkbckkminmdmaaW.PrintWords
attribute [local go_sem] alloc_drewN setCell_drewN isMap_alloc isMap_drew isMap_drewN isMap_setCell cell_setMap frozen_setMap setMap_drew setMap_drewN size_setMap field_piece0 field_data1 field_data3 field_data6

def ClonePost (n : Nat) (bs : List Int) (w : World) (e : Ending) (w' : World) : Prop :=
  ∃ g cap, e = .returned (.slice (some ⟨g, 0, none⟩) n cap) ∧ Byt w' g cap bs ∧ Fr (fun _ => False) w w' ∧ w.heap.size ≤ g ∧ g < w'.heap.size
set_option maxRecDepth 100000 in
theorem clone_any (ad : Addr) (n c : Nat) (bs : List Int) (w : World) (hcells : ∀ j u, (nums .u8 bs)[j]? = some u → w.cell? (ad.add j) = some u) (hlt : ad.block < w.heap.size) (hl : bs.length = n) (hn : 0 < n) (hmax : n ≤ 1000000) :
    Calls Try.prog 103 #[.slice (some ad) n c] w (ClonePost n bs w) := by
  obtain ⟨i8, hi8, hz8, hsz8, hby8⟩ := info_parts info_u8
  have hnil : ∀ W : World, Sem.run Try.prog (binOp .eql 31 (.slice (some ad) n c) (.slice none 0 0)) W = .ok (.bool false) W := fun W => Lib.run_eql_slice_nil W _ _ _ _ _ _ _ Try.underlying31
  have hown : (w.alloc (.cells #[] 5)).ownsRow w.heap.size 5 1 (.slice (some ⟨w.heap.size, 0, none⟩) 0 0) 0 [] := World.ownsRow_made w #[] 0 (Nat.le_refl _) (by simp [maxLen]) rfl
  go_enter Try.func103, Try.ntmps103
  go_wp2_with (at_builtin; refine wpList_append_lies _ rfl (.tmp 5) (.tmp 6) 31 rfl w.heap.size 5 i8 (.int .u8 0) 1 1 Try.underlying31 hi8 hz8 hsz8 hby8 rfl (by decide) (.slice (some ⟨w.heap.size, 0, none⟩) 0 0) 0 [] rfl hown ad n c (nums .u8 bs) rfl (by simp [nums, hl]) (fun j u hu => (Fr.cell ((Fr.refl (fun _ => False) w).alloc _) (by rw [block_of_add]; exact hlt) (fun h => h)).trans (hcells j u hu)) (nums_one _ _) hn (by simp only [maxLen]; omega) (by omega) (by simp) _ rfl ?_; intro g1 cap1 w1 hown1 hgrow1 hat1 hlt1)
  go_ret
  have hb := hown1.lt g1 rfl
  refine ⟨g1, cap1, rfl, ?_, ?_, hb.1, hlt1⟩
  · have h1 := hown1
    rw [Nat.zero_add, List.nil_append] at h1
    refine ⟨by simp [nums], ?_⟩
    rw [hl]
    rcases h1.2 with ⟨hv, _⟩ | ⟨g', cap', cur, hv, _, r⟩
    · cases hv
    · exact .inr ⟨g', cap', cur, hv, Nat.zero_le _, r⟩
  · exact ((Fr.refl _ _).alloc _).grown hgrow1 (fun k hk => .inr (by
      have : w.heap.size = k := by simpa [Value.ownBlock] using hk
      omega))

def dcells (d : Rs.Pc) (A : Option Addr) (c : Nat) : Array Value := #[.int .u32 d.tsn, .int .u16 d.stream, .int .u16 d.ssn, .bool d.un, .bool d.fi, .bool d.la, .slice A d.bytes.length c]
def PutPost (g : Nat) (s : Gs) (h : Int) (d : Rs.Pc) (w : World) (e : Ending) (w' : World) : Prop :=
  e = .returned (.int .i64 (Rs.put s.abs d).2) ∧ ∃ s' h', Upd g s s' h' w w' ∧ s'.abs = (Rs.put s.abs d).1 ∧ s'.next.length = s.next.length ∧ s'.turns ≤ s.turns + 1 ∧
    h' = (if (Rs.put s.abs d).2 = 0 then h + d.bytes.length else h) ∧ (∀ x ∈ s'.L, x.p.bytes.length ≤ 100000)
theorem PutPost.same {g : Nat} {s : Gs} {h : Int} {d : Rs.Pc} {w w' : World} {code : Int} (hr : RsAt w g s h) (hlim : ∀ x ∈ s.L, x.p.bytes.length ≤ 100000) (hp : Rs.put s.abs d = (s.abs, code)) (hc : code ≠ 0) (hf : Fr (fun _ => False) w w') : PutPost g s h d w (.returned (.int .i64 code)) w' := by
  refine ⟨by rw [hp], s, h, (Upd.refl hr).fr0 hf, by rw [hp], rfl, by omega, by rw [hp, if_neg hc], hlim⟩

set_option maxRecDepth 100000 in
set_option maxHeartbeats 4000000 in
/-- A piece that is refused. -/
theorem put_no (g : Nat) (s : Gs) (h : Int) (d : Rs.Pc) (A : Option Addr) (c : Nat) (w : World) (hr : RsAt w g s h) (hlim : ∀ x ∈ s.L, x.p.bytes.length ≤ 100000) (h0 : 0 ≤ d.stream) (h1 : d.stream < 65536) (hn : d.bytes.length ≤ 100000)
    (hno : (Rs.put s.abs d).2 ≠ 0) :
    Calls Try.prog 42 #[.pointer (some ⟨g, 0, none⟩), .agg (dcells d A c)] w (PutPost g s h d w) := by
  have hg := hr.blk.lt
  have hgs := hr.blk.lts
  have cg := hr.blk.cell
  have hm := hr.inn.map
  have hml := hm.lt
  have hms := hm.lts
  have hn16 := hr.ok.nxl
  unfold gcells at cg
  unfold dcells
  by_cases hst : s.next.length ≤ d.stream.toNat
  · have hp : Rs.put s.abs d = (s.abs, 4) := Rs.put_stream hst
    have HP := Lib.hid hp
    have hst' : (s.next.length : Int) ≤ d.stream := by omega
    clear hp hno
    go_enter Try.func42, Try.ntmps42
    go_wp2_with fail
    go_quiet (fail)
    go_wp2_with fail
    go_ret
    exact PutPost.same hr hlim HP.out (by decide) (by repeat (first | (with_reducible exact Fr.refl _ _) | (with_reducible refine Fr.drewN ?_ _) | (with_reducible refine Fr.drew ?_) | (with_reducible refine Fr.alloc ?_ _)))
  · have hst' : d.stream < (s.next.length : Int) := by omega
    by_cases hby : d.bytes.length = 0
    · have hp : Rs.put s.abs d = (s.abs, 5) := Rs.put_size hst hby
      have HP := Lib.hid hp
      have hb1 : ((d.bytes.length : Int) == 0) = true := by rw [hby]; rfl
      clear hp hno hby
      go_enter Try.func42, Try.ntmps42
      go_wp2_with fail
      go_quiet (fail)
      go_wp2_with fail
      go_ret
      exact PutPost.same hr hlim HP.out (by decide) (by repeat (first | (with_reducible exact Fr.refl _ _) | (with_reducible refine Fr.drewN ?_ _) | (with_reducible refine Fr.drew ?_) | (with_reducible refine Fr.alloc ?_ _)))
    · have hb1 : ((d.bytes.length : Int) == 0) = false := by rw [beq_eq_false_iff_ne]; omega
      have hpos : 0 < d.bytes.length := by omega
      have hby' := Lib.hid hby
      clear hby
      have cn := hr.inn.nxt.cell d.stream.toNat
      rw [next_cell h0 hst'] at cn
      have ln := hr.inn.nxt.lt
      have lns := hr.inn.nxt.lts
      cases hl : (!d.un && Rs.less16 d.ssn (Rs.nextOf s.abs d.stream)) with
      | true =>
        have hp : Rs.put s.abs d = (s.abs, 1) := Rs.put_late hst hby'.out hl
        have HP := Lib.hid hp
        simp only [Bool.and_eq_true, Bool.not_eq_true'] at hl
        obtain ⟨hun, hl⟩ := hl
        clear hp hno
        go_enter Try.func42, Try.ntmps42
        go_wp2_with fail
        go_quiet (fail)
        go_wp2_with fail
        go_quiet ((go_at_call 102; exact quiet_add_same (less16_any _ _ _)))
        go_wp2_with fail
        go_ret
        exact PutPost.same hr hlim HP.out (by decide) (by repeat (first | (with_reducible exact Fr.refl _ _) | (with_reducible refine Fr.drewN ?_ _) | (with_reducible refine Fr.drew ?_) | (with_reducible refine Fr.alloc ?_ _)))
      | false =>
        cases hget : Rs.get s.abs.L d.tsn with
        | none =>
          refine absurd ?_ hno
          cases hun : d.un with
          | true =>
            rw [Rs.put_un hst hby'.out hget hun]
            split <;> rfl
          | false => rw [Rs.put_ord hst hby'.out hl hget hun]
        | some x =>
          have hp : Rs.put s.abs d = (s.abs, 1) := Rs.put_there hst hby'.out hl (by rw [hget]; rfl)
          have HP := Lib.hid hp
          clear hp hno
          rcases look_cases s.mb s.clk s.L d.tsn with ⟨hn, _⟩ | ⟨y, hy, _, _, _, hrun⟩
          · exact absurd (hn.symm.trans hget) (by simp)
          clear hget
          unfold pcells at hrun
          cases hun : d.un with
          | true =>
            rw [hun] at hl
            go_enter Try.func42, Try.ntmps42
            go_wp2_with fail
            go_quiet (fail)
            go_wp2_with fail
            go_quiet (fail)
            go_wp2_with fail
            go_region
            all_goals
              go_wp2_with fail
              go_ret
              exact PutPost.same hr hlim HP.out (by decide) (by repeat (first | (with_reducible exact Fr.refl _ _) | (with_reducible refine Fr.drewN ?_ _) | (with_reducible refine Fr.drew ?_) | (with_reducible refine Fr.alloc ?_ _)))
          | false =>
            have hl2 : Rs.less16 d.ssn (Rs.nextOf s.abs d.stream) = false := by
              rw [hun] at hl
              simpa using hl
            clear hl
            go_enter Try.func42, Try.ntmps42
            go_wp2_with fail
            go_quiet (fail)
            go_wp2_with fail
            go_quiet ((go_at_call 102; exact quiet_add_same (less16_any _ _ _)))
            go_wp2_with fail
            go_region
            all_goals
              go_wp2_with fail
              go_ret
              exact PutPost.same hr hlim HP.out (by decide) (by repeat (first | (with_reducible exact Fr.refl _ _) | (with_reducible refine Fr.drewN ?_ _) | (with_reducible refine Fr.drew ?_) | (with_reducible refine Fr.alloc ?_ _)))
end Go.Proofs.Ytpkbckkminmdmaa
