/- Take as a whole; works. -/
import Derived.Test.YtpkbckkminmdmaaRsL2
namespace Go.Proofs.Ytpkbckkminmdmaa
open Go.RowKit Go.Proofs.YtpkbckkminmdmaaW.PrintWords
attribute [local go_sem] alloc_drewN setCell_drewN isMap_alloc isMap_drew isMap_drewN isMap_setCell cell_setMap frozen_setMap setMap_drew setMap_drewN size_setMap field_piece0 field_data1 field_data3 field_data6

def TakeP (g : Nat) (s : Gs) (m : Rs.Ms) (st : Rs.St) (w : World) (e : Ending) (w' : World) : Prop :=
  ∃ b c s', e = .returned (.tuple #[.agg #[.int .u16 m.stream, .bool m.ord, .slice (some ⟨b, 0, none⟩) m.bytes.length c], .bool true]) ∧ Upd g s s' (Rs.held s'.abs) w w' ∧ s'.abs = st ∧ s'.next = s.next ∧ s'.turns = s.turns ∧ s'.L = s.L ∧ Byt w' b c m.bytes ∧ ¬ Foot g s' b ∧ Foot g s b
theorem take_any (g : Nat) (s : Gs) (m : Rs.Ms) (st : Rs.St) (w : World) (hr : RsAt w g s (Rs.held s.abs)) (hh : Rs.held s.abs < 1000000000) (ht : Rs.take s.abs = some (m, st)) :
    Calls Try.prog 37 #[.pointer (some ⟨g, 0, none⟩)] w (TakeP g s m st w) := by
  unfold Rs.take at ht
  cases hrow : s.row with
  | nil =>
    rw [show s.abs.row = s.row.map (·.m) from rfl, hrow] at ht
    cases ht
  | cons me r =>
    rw [show s.abs.row = s.row.map (·.m) from rfl, hrow] at ht
    injection ht with ht
    injection ht with h1 h2
    subst h1
    subst h2
    have hheld : Rs.held { s.abs with row := r.map (·.m) } = Rs.held s.abs - me.m.bytes.length := by
      rw [Rs.held_eq, Rs.held_eq]
      have : Rs.bytesOfM s.abs.row = me.m.bytes.length + Rs.bytesOfM (r.map (·.m)) := by
        rw [show s.abs.row = s.row.map (·.m) from rfl, hrow]
        simp [Rs.bytesOfM]
      rw [this]
      show Rs.bytesOf s.abs.L + Rs.bytesOfM (r.map (·.m)) = _
      omega
    have hle : (me.m.bytes.length : Int) ≤ Rs.held s.abs := by
      have := held_nonneg { s.abs with row := r.map (·.m) }
      omega
    have hmem : me ∈ s.row := by rw [hrow]; exact List.mem_cons_self
    have hby := hr.inn.msg me hmem
    obtain ⟨cur, hcur, _⟩ := hby.blk
    refine (take_some hr hrow hle hh).mono ?_
    rintro e w' ⟨rfl, A, c, hu, hb⟩
    refine ⟨me.blk, me.cap, { s with row := r, rowA := A, rowc := c }, rfl, ?_, rfl, rfl, rfl, rfl, hb, ?_, .inr (.inr (.inr (.inr (.inr ⟨me, hmem, rfl⟩))))⟩
    · have e : Rs.held ({ s with row := r, rowA := A, rowc := c } : Gs).abs = Rs.held s.abs - me.m.bytes.length := hheld
      rw [e]
      exact hu
    · have hd := hr.ok.dist
      rw [hrow] at hd
      have hd2 := (List.nodup_append.1 hd)
      rintro (e | e | e | e | ⟨x, hx, e⟩ | ⟨x, hx, e⟩)
      · exact Blk.ne hcur hr.blk (by decide) e
      · exact hr.inn.map.ne_blk hcur e.symm
      · exact Blk.ne hcur hr.inn.nxt (by decide) e
      · have hq := hu.at_.inn.row
        obtain ⟨_, cells, ht⟩ := q_typed hq me.blk e
        have := hcur
        obtain ⟨cur', hcur', _⟩ := hb.blk
        exact Blk.ne (t := 40) (t' := 5) ht hcur' (by decide) rfl
      · exact hd2.2.2 x.blk (List.mem_map_of_mem hx) me.blk (by simp) e
      · have := hd2.2.1
        rw [List.map_cons, List.nodup_cons] at this
        exact this.1 (e ▸ List.mem_map_of_mem hx)

def S1 : Rs.St := (Rs.put (Rs.new 2) ⟨5, 0, 0, false, false, true, [98]⟩).1
def S2 : Rs.St := (Rs.put S1 ⟨4, 0, 0, false, true, false, [97]⟩).1
def S3 : Rs.St := { S2 with row := [] }
def S4 : Rs.St := (Rs.put S3 ⟨7, 0, 2, false, true, true, [99]⟩).1
def S5 : Rs.St := (Rs.skip S4 6 [(0, 1)]).1
def S6 : Rs.St := { S5 with row := [] }
theorem e1 : (Rs.put (Rs.new 2) ⟨5, 0, 0, false, false, true, [98]⟩).1 = S1 := by unfold S1; rfl
theorem e2 : (Rs.put S1 ⟨4, 0, 0, false, true, false, [97]⟩).1 = S2 := by unfold S2; rfl
theorem e4 : (Rs.put S3 ⟨7, 0, 2, false, true, true, [99]⟩).1 = S4 := by unfold S4; rfl
theorem e5 : (Rs.skip S4 6 [(0, 1)]).1 = S5 := by unfold S5; rfl
theorem held_new (mb nb n : Nat) : Rs.held (newGs mb nb n).abs = 0 := by simp [newGs, Gs.abs, Rs.held]
theorem p1 : (Rs.put (Rs.new 2) ⟨5, 0, 0, false, false, true, [98]⟩).2 = 0 := by kernel_rfl
theorem p2 : (Rs.put S1 ⟨4, 0, 0, false, true, false, [97]⟩).2 = 0 := by kernel_rfl
theorem p3 : Rs.take S2 = some (⟨0, true, [97, 98]⟩, S3) := by kernel_rfl
theorem p4 : (Rs.put S3 ⟨7, 0, 2, false, true, true, [99]⟩).2 = 0 := by kernel_rfl
theorem p5 : S4.row = [] := by kernel_rfl
theorem p6 : (Rs.skip S4 6 [(0, 1)]).2 = 0 := by kernel_rfl
theorem p7 : Rs.take S5 = some (⟨0, true, [99]⟩, S6) := by kernel_rfl
theorem p8 : Rs.held S6 = 0 := by kernel_rfl
theorem q1 : Rs.held S1 = 1 := by kernel_rfl
theorem q2 : Rs.held S2 = 2 := by kernel_rfl
theorem q3 : Rs.held S3 = 0 := by kernel_rfl
theorem q4 : Rs.held S4 = 1 := by kernel_rfl
theorem q5 : Rs.held S5 = 1 := by kernel_rfl

theorem conv_const (W : World) (g : Nat) (hg : g = W.heap.size) (C : Array Value) (n c : Nat) : (convert 31 31 (.slice (some ⟨g, 0, none⟩) n c)).run Try.prog (W.alloc (.cells C 5)) = .ok (.slice (some ⟨g, 0, none⟩) n c) (W.alloc (.cells C 5 (C.size, C.size + 1))) :=
  Go.Joins.run_convert_bytes_const_at W _ _ C n c g hg Try.underlying31 Try.underlying5
theorem bin_const (W : World) (x : Int) (fr : Nat × Nat) : BIn (W.alloc (.cells #[.int .u8 x] 5 fr)) (some ⟨W.heap.size, 0, none⟩) [x] := fun _ =>
  ⟨⟨W.heap.size, 0, none⟩, rfl, by simp, fun i hi => by
    have : i = 0 := by simp at hi; omega
    subst this
    exact World.cell?_alloc_mark W _ _ fr 0⟩
theorem skin_one (W : World) (a b : Int) {S : Nat → Prop} (hS : ∀ k, S k → k < W.heap.size) : SkIn (W.alloc (.cells #[.int .u16 a, .int .u16 b] 67)) (some ⟨W.heap.size, 0, none⟩) [(a, b)] S := fun _ =>
  ⟨W.heap.size, 0, rfl, by simp, fun h => absurd (hS _ h) (Nat.lt_irrefl _), fun j u hu => by
    have hb := Blk.new W 67 #[.int .u16 a, .int .u16 b]
    rw [Nat.zero_add, hb.cell, ← hu, ← Array.getElem?_toList]
    rfl⟩
theorem put_seq {g : Nat} {s : Gs} {st st' : Rs.St} {d : Rs.Pc} {code : Int} {A : Option Addr} {c : Nat} {W : World} (hr : RsAt W g s (Rs.held s.abs)) (hab : s.abs = st) (hc : (Rs.put st d).2 = code) (hst : (Rs.put st d).1 = st') (hlim : ∀ x ∈ s.L, x.p.bytes.length ≤ 100000) (ht : s.turns < 1000) (hd : (0 ≤ d.stream ∧ d.stream < 65536) ∧ (0 ≤ d.ssn ∧ d.ssn < 65536) ∧ (0 ≤ d.tsn ∧ d.tsn < 4294967296) ∧ d.bytes.length ≤ 100000)
    (hh : Rs.held st < 1000000000) (hb : BIn W A d.bytes) : Calls Try.prog 42 #[.pointer (some ⟨g, 0, none⟩), .agg (dcells d A c)] W fun e w' => e = .returned (.int .i64 code) ∧ ∃ s', Upd g s s' (Rs.held s'.abs) W w' ∧ s'.abs = st' ∧ s'.turns ≤ s.turns + 1 ∧ (∀ x ∈ s'.L, x.p.bytes.length ≤ 100000) := by
  subst hab
  subst hc
  subst hst
  refine (put_any g s d A c W hr hlim ht hd.1.1 hd.1.2 hd.2.1.1 hd.2.1.2 hd.2.2.1.1 hd.2.2.1.2 hd.2.2.2 hh hb).mono ?_
  rintro e w' ⟨he, s', hu, ha, _, h1, h2⟩
  exact ⟨he, s', hu, ha, h1, h2⟩
theorem take_seq {g : Nat} {s : Gs} {st st' : Rs.St} {m : Rs.Ms} {W : World} (hr : RsAt W g s (Rs.held s.abs)) (hab : s.abs = st) (hh : Rs.held st < 1000000000) (ht : Rs.take st = some (m, st')) : Calls Try.prog 37 #[.pointer (some ⟨g, 0, none⟩)] W (TakeP g s m st' W) := by
  subst hab
  exact take_any g s m st' W hr hh ht
theorem skipn_seq {g : Nat} {s : Gs} {st st' : Rs.St} {cum : Int} {sk : List (Int × Int)} {code : Int} {A : Option Addr} {c : Nat} {W : World} (hr : RsAt W g s (Rs.held s.abs)) (hab : s.abs = st) (hc : (Rs.skip st cum sk).2 = code) (hst : (Rs.skip st cum sk).1 = st') (hlim : ∀ x ∈ s.L, x.p.bytes.length ≤ 100000) (ht : s.turns ≤ 1000)
    (hh : Rs.held st < 1000000000) (hsk : ∀ x ∈ sk, 0 ≤ x.1 ∧ x.1 < 65536 ∧ 0 ≤ x.2 ∧ x.2 < 65536) (hlen : sk.length ≤ 1000) (hin : SkIn W A sk (Foot g s)) : Calls Try.prog 46 #[.pointer (some ⟨g, 0, none⟩), .agg #[.int .u32 cum, .slice A sk.length c]] W fun e w' => e = .returned (.int .i64 code) ∧ ∃ s', Upd g s s' (Rs.held s'.abs) W w' ∧ s'.abs = st' ∧ s'.turns = s.turns ∧ Lim s' := by
  subst hab
  subst hc
  subst hst
  refine (skipn_any g s cum sk A c W hr ⟨ht, hlim⟩ hh hsk hlen hin).mono ?_
  rintro e w' ⟨he, s', hu, ha, hs, hl, _⟩
  exact ⟨he, s', hu, ha, hs.turns, hl⟩
theorem Upd.out {g : Nat} {s s' : Gs} {h' : Int} {w0 W W' : World} (u : Upd g s s' h' W W') (hF : Fr (fun _ => False) w0 W) (hft : ∀ k, Foot g s k → w0.heap.size ≤ k) : Fr (fun _ => False) w0 W' ∧ ∀ k, Foot g s' k → w0.heap.size ≤ k :=
  ⟨hF.then u.fr (fun k hk => .inr (hft k hk)), fun k hk => (u.foot k hk).elim (hft k) (fun h => Nat.le_trans hF.size h)⟩
theorem foot_after {g : Nat} {s s' : Gs} {h' : Int} {w w' : World} (u : Upd g s s' h' w w') {b : Nat} (hb : b < w.heap.size) (hn : ¬ Foot g s b) : ¬ Foot g s' b := fun h => by
  rcases u.foot b h with h | h
  · exact hn h
  · omega
theorem Byt.upd {g : Nat} {s s' : Gs} {h' : Int} {w w' : World} {b c : Nat} {bs : List Int} (hb : Byt w b c bs) (u : Upd g s s' h' w w') (hn : ¬ Foot g s b) : Byt w' b c bs := hb.keep (u.fr.block b hb.lt hn)
theorem Byt.fr0 {w w' : World} {b c : Nat} {bs : List Int} (hb : Byt w b c bs) (hf : Fr (fun _ => False) w w') : Byt w' b c bs := hb.keep (hf.block b hb.lt (fun h => h))
set_option maxRecDepth 100000 in
set_option maxHeartbeats 8000000 in
theorem works_any (w : World) : Calls Try.prog 27 #[] w (Same0 (.bool true) w) := by
  have hs1 : (strOfNums [97, 98]).toList = [97, 98] := by kernel_rfl
  have hs2 : (strOfNums [99]).toList = [99] := by kernel_rfl
  have h00 : Rs.held (Rs.new 2) = 0 := by kernel_rfl
  have HS1 := Lib.hid hs1
  have HS2 := Lib.hid hs2
  have H00 := Lib.hid h00
  clear hs1 hs2 h00
  have hnew := new_good 2 w (by decide) (by decide)
  go_enter Try.func27, Try.ntmps27
  go_wp2_with (go_at_call 28; refine hnew.mono ?_; clear hnew; rintro e w1 ⟨g, mb, nb, rfl, hr0, hf0, hft0⟩; have hr0' : RsAt w1 g (newGs mb nb 2) (Rs.held (newGs mb nb 2).abs) := (by rw [held_new]; exact hr0); have HR0 := Lib.hid hr0'; have HO1 := Lib.hid (And.intro hf0 hft0); clear hr0 hr0' hft0 hf0; have hcv1 := conv_const w1 w1.heap.size rfl #[.int .u8 98] 1 1)
  go_at_call 42
  refine (put_seq (s := newGs mb nb 2) (st := Rs.new 2) (d := ⟨5, 0, 0, false, false, true, [98]⟩) (HR0.out.fr0 (by repeat (first | (with_reducible exact Fr.refl _ _) | (with_reducible refine Fr.drewN ?_ _) | (with_reducible refine Fr.drew ?_) | (with_reducible refine Fr.alloc ?_ _)))) rfl p1 e1 (by intro x hx; cases hx) (by show (0 : Int) < 1000; decide) (by decide) (by rw [H00.out]; decide) (bin_const _ _ _)).mono ?_
  rintro e w2 ⟨rfl, s1, hu1, hab1, ht1, hl1⟩
  have HAB1 := Lib.hid hab1
  have HO2 := Lib.hid (hu1.out (HO1.out.1.alloc _) HO1.out.2)
  have HU1 := Lib.hid hu1
  clear hu1
  have HT1 := Lib.hid ht1
  have HL1 := Lib.hid hl1
  clear hab1 ht1 hl1 hcv1
  have hcv2 := conv_const w2 w2.heap.size rfl #[.int .u8 97] 1 1
  go_wp2_with fail
  go_at_call 42
  refine (put_seq (st := S1) (d := ⟨4, 0, 0, false, true, false, [97]⟩) (HU1.out.at_.fr0 (by repeat (first | (with_reducible exact Fr.refl _ _) | (with_reducible refine Fr.drewN ?_ _) | (with_reducible refine Fr.drew ?_) | (with_reducible refine Fr.alloc ?_ _)))) HAB1.out p2 e2 HL1.out (by have : (newGs mb nb 2).turns = 0 := rfl; have := HT1.out; omega) (by decide) (by rw [q1]; decide) (bin_const _ _ _)).mono ?_
  rintro e w3 ⟨rfl, s2, hu2, hab2, ht2, hl2⟩
  have HAB2 := Lib.hid hab2
  have HO3 := Lib.hid (hu2.out (HO2.out.1.alloc _) HO2.out.2)
  have HU2 := Lib.hid hu2
  clear hu2
  have HT2 := Lib.hid ht2
  have HL2 := Lib.hid hl2
  clear hab2 ht2 hl2 hcv2
  go_wp2_with fail
  go_at_call 37
  refine (take_seq (st := S2) HU2.out.at_ HAB2.out (by rw [q2]; decide) p3).mono ?_
  rintro e w4 ⟨b1, c1, s3, rfl, hu3, hab3, hn3, ht3, hL3, hb3, hnb3, _⟩
  have hcv3 := conv_const (w4.alloc (.cells #[.int .u16 0, .bool true, .slice (some ⟨b1, 0, none⟩) 2 c1] 40)) (w4.heap.size + 1) (by simp) #[.int .u8 99] 1 1
  have hbin := bin_const (w4.alloc (.cells #[.int .u16 0, .bool true, .slice (some ⟨b1, 0, none⟩) 2 c1] 40)) 99 (1, 2)
  rw [show (w4.alloc (.cells #[.int .u16 0, .bool true, .slice (some ⟨b1, 0, none⟩) 2 c1] 40)).heap.size = w4.heap.size + 1 by simp] at hbin
  have hbox := Blk.new w4 40 #[.int .u16 0, .bool true, .slice (some ⟨b1, 0, none⟩) 2 c1]
  have HO4 := Lib.hid (hu3.out HO3.out.1 HO3.out.2)
  have HAB3 := Lib.hid hab3
  have HR3 := Lib.hid hu3.at_
  have ht3' : s3.turns ≤ 2 := by rw [ht3]; have : (newGs mb nb 2).turns = 0 := rfl; have := HT1.out; have := HT2.out; omega
  have hL3' : ∀ x ∈ s3.L, x.p.bytes.length ≤ 100000 := by rw [hL3]; exact HL2.out
  have HT3 := Lib.hid ht3'
  have HL3 := Lib.hid hL3'
  have HB3 := Lib.hid hb3
  have HNB3 := Lib.hid hnb3
  have HBX := Lib.hid hbox
  have HBIN := Lib.hid hbin
  clear ht3' hL3' hab3 hu3 ht3 hL3 hn3 hb3 hnb3 hbox hbin HAB1 HU1 HT1 HL1 HAB2 HU2 HT2 HL2 HR0
  go_wp2_with fail
  go_at_call 42
  refine (put_seq (st := S3) (d := ⟨7, 0, 2, false, true, true, [99]⟩) (HR3.out.fr0 (by repeat (first | (with_reducible exact Fr.refl _ _) | (with_reducible refine Fr.drewN ?_ _) | (with_reducible refine Fr.drew ?_) | (with_reducible refine Fr.alloc ?_ _)))) HAB3.out p4 e4 HL3.out (by have := HT3.out; omega) (by decide) (by rw [q3]; decide) HBIN.out).mono ?_
  rintro e w5 ⟨rfl, s4, hu4, hab4, ht4, hl4⟩
  have HO5 := Lib.hid (hu4.out ((HO4.out.1.alloc _).alloc _) HO4.out.2)
  have HU4 := Lib.hid hu4
  have HAB4 := Lib.hid hab4
  have HT4 := Lib.hid ht4
  have HL4 := Lib.hid hl4
  have hfl : ∀ k, Foot g s3 k → k < w4.heap.size := fun k hk => HR3.out.foot_lt hk
  have HFL := Lib.hid hfl
  have HB4 := Lib.hid ((HB3.out.fr0 (by repeat (first | (with_reducible exact Fr.refl _ _) | (with_reducible refine Fr.drewN ?_ _) | (with_reducible refine Fr.drew ?_) | (with_reducible refine Fr.alloc ?_ _)))).upd hu4 HNB3.out)
  have HNB4 := Lib.hid (foot_after hu4 (HB3.out.fr0 (by repeat (first | (with_reducible exact Fr.refl _ _) | (with_reducible refine Fr.drewN ?_ _) | (with_reducible refine Fr.drew ?_) | (with_reducible refine Fr.alloc ?_ _)))).lt HNB3.out)
  have HNX4 := Lib.hid (foot_after hu4 (b := w4.heap.size) (by simp; omega) (fun h => absurd (hfl _ h) (Nat.lt_irrefl _)))
  have HBX4 := Lib.hid ((HBX.out.fr (S := fun _ => False) (by repeat (first | (with_reducible exact Fr.refl _ _) | (with_reducible refine Fr.drewN ?_ _) | (with_reducible refine Fr.drew ?_) | (with_reducible refine Fr.alloc ?_ _))) (fun h => h)).fr hu4.fr (fun h => absurd (hfl _ h) (Nat.lt_irrefl _)))
  have hrow4 : s4.row = [] := by
    have : s4.abs.row = [] := by rw [hab4]; exact p5
    exact List.map_eq_nil_iff.1 this
  have HROW := Lib.hid hrow4
  clear hu4 hab4 ht4 hl4 hfl hrow4 hcv3
  go_wp2_with fail
  go_at_call 37
  refine (take_none HU4.out.at_ HROW.out).mono ?_
  rintro e w6 ⟨rfl, hf6⟩
  have hfm : Fr (fun _ => False) w5 (w6.alloc (.cells #[.int .u16 0, .bool false, .slice none 0 0] 40)) := hf6.alloc _
  have hR6 := HU4.out.at_.fr0 hfm
  have hsk := skin_one (w6.alloc (.cells #[.int .u16 0, .bool false, .slice none 0 0] 40)) 0 1 (S := Foot g s4) (fun k hk => hR6.foot_lt hk)
  rw [show (w6.alloc (.cells #[.int .u16 0, .bool false, .slice none 0 0] 40)).heap.size = w6.heap.size + 1 by simp] at hsk
  have HSK := Lib.hid hsk
  have HFM := Lib.hid hfm
  have HR6 := Lib.hid hR6
  clear hfm hR6 hsk hf6
  unfold noMsg
  go_wp2_with fail
  go_at_call 46
  refine (skipn_seq (st := S4) (sk := [(0, 1)]) (HR6.out.fr0 (by repeat (first | (with_reducible exact Fr.refl _ _) | (with_reducible refine Fr.drewN ?_ _) | (with_reducible refine Fr.drew ?_) | (with_reducible refine Fr.alloc ?_ _)))) HAB4.out p6 e5 HL4.out (by have := HT3.out; have := HT4.out; omega) (by rw [q4]; decide) (by decide) (by decide) HSK.out).mono ?_
  rintro e w7 ⟨rfl, s5, hu5, hab5, ht5, hl5⟩
  go_wp2_with fail
  go_at_call 37
  refine (take_seq (st := S5) hu5.at_ hab5 (by rw [q5]; decide) p7).mono ?_
  rintro e w8 ⟨b2, c2, s6, rfl, hu6, hab6, hn6, ht6, hL6, hb6, hnb6, _⟩
  have HO7 := hu6.out (hu5.out (HO5.out.1.trans (HFM.out.alloc _)) HO5.out.2).1 (hu5.out (HO5.out.1.trans (HFM.out.alloc _)) HO5.out.2).2
  have HO8 := Lib.hid HO7
  clear HO7
  have hfA : Fr (fun _ => False) w5 ((w6.alloc (.cells #[.int .u16 0, .bool false, .slice none 0 0] 40)).alloc (.cells #[.int .u16 0, .int .u16 1] 67)) := HFM.out.alloc _
  have hB5 := (HB4.out.fr0 hfA).upd hu5 HNB4.out
  have hN5 := foot_after hu5 (HB4.out.fr0 hfA).lt HNB4.out
  have hB6 := hB5.upd hu6 hN5
  have hX5 := (HBX4.out.fr hfA (fun h => h)).fr hu5.fr HNX4.out
  have hNX5 := foot_after hu5 (HBX4.out.fr hfA (fun h => h)).lt HNX4.out
  have hX6 := hX5.fr hu6.fr hNX5
  have hcA : (convert 31 9 (.slice (some ⟨b1, 0, none⟩) 2 c1)).run Try.prog (w8.alloc (.cells #[.int .u16 0, .bool true, .slice (some ⟨b2, 0, none⟩) 1 c2] 40)) = .ok (.string (strOfNums [97, 98])) (w8.alloc (.cells #[.int .u16 0, .bool true, .slice (some ⟨b2, 0, none⟩) 1 c2] 40)) := (hB6.bin.fr0 (w' := w8.alloc (.cells #[.int .u16 0, .bool true, .slice (some ⟨b2, 0, none⟩) 1 c2] 40)) (by repeat (first | (with_reducible exact Fr.refl _ _) | (with_reducible refine Fr.drewN ?_ _) | (with_reducible refine Fr.drew ?_) | (with_reducible refine Fr.alloc ?_ _)))).conv c1
  have hcB : (convert 31 9 (.slice (some ⟨b2, 0, none⟩) 1 c2)).run Try.prog (w8.alloc (.cells #[.int .u16 0, .bool true, .slice (some ⟨b2, 0, none⟩) 1 c2] 40)) = .ok (.string (strOfNums [99])) (w8.alloc (.cells #[.int .u16 0, .bool true, .slice (some ⟨b2, 0, none⟩) 1 c2] 40)) := (hb6.bin.fr0 (w' := w8.alloc (.cells #[.int .u16 0, .bool true, .slice (some ⟨b2, 0, none⟩) 1 c2] 40)) (by repeat (first | (with_reducible exact Fr.refl _ _) | (with_reducible refine Fr.drewN ?_ _) | (with_reducible refine Fr.drew ?_) | (with_reducible refine Fr.alloc ?_ _)))).conv c2
  have xc := hX6.cell
  have xl := hX6.lt
  have xls := hX6.lts
  have hs1 := HS1.out
  have hs2 := HS2.out
  have hheld := held_any (hu6.at_.fr0 (w' := w8.alloc (.cells #[.int .u16 0, .bool true, .slice (some ⟨b2, 0, none⟩) 1 c2] 40)) (by repeat (first | (with_reducible exact Fr.refl _ _) | (with_reducible refine Fr.drewN ?_ _) | (with_reducible refine Fr.drew ?_) | (with_reducible refine Fr.alloc ?_ _))))
  rw [hab6, p8] at hheld
  clear hu5 hab5 ht5 hl5 hu6 hab6 hn6 ht6 hL6 hb6 hnb6 hB5 hN5 hB6 hX5 hNX5 hX6 hfA
  go_wp2_with (go_at_call 30; refine hheld.mono ?_; rintro e w9 ⟨rfl, hf9⟩)
  go_ret
  exact ⟨rfl, (HO8.out.1.alloc _).trans hf9⟩
end Go.Proofs.Ytpkbckkminmdmaa
