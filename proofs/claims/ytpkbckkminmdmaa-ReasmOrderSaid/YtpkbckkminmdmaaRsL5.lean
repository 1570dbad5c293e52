/- twin; does. -/
import Derived.Test.YtpkbckkminmdmaaRsL4
namespace Go.Proofs.Ytpkbckkminmdmaa
open Go.RowKit Go.Proofs.YtpkbckkminmdmaaW.PrintWords Go.Proofs.YtpkbckkminmdmaaW.PrintMore Go.Proofs.Ytpkbckkminmdmaa.PReasmHeld
attribute [local go_sem] alloc_drewN setCell_drewN isMap_alloc isMap_drew isMap_drewN isMap_setCell cell_setMap frozen_setMap setMap_drew setMap_drewN size_setMap field_piece0 field_data1 field_data3 field_data6

theorem Blk.facts {w : World} {g : Nat} {t : TypeId} {cs : Array Value} (h : Blk w g t cs) : (∀ i, w.cell? ⟨g, i, none⟩ = cs[i]?) ∧ g < w.heap.size ∧ (∀ k, g < w.heap.size + k) ∧ (∀ i, w.frozen? ⟨g, i, none⟩ = false) := ⟨h.cell, h.lt, h.lts, h.frozen⟩
/-- Bytes in memory of their own. -/
def Own (w : World) (base : Nat) (A : Option Addr) (c : Nat) (bs : List Int) : Prop := w.ownsRow base 5 1 (.slice A bs.length c) bs.length (nums .u8 bs)
theorem Own.blk {w : World} {base : Nat} {A : Option Addr} {c : Nat} {bs : List Int} (h : Own w base A c bs) : (A = none ∧ bs = [] ∧ c = 0) ∨ ∃ g cur, A = some ⟨g, 0, none⟩ ∧ base ≤ g ∧ Blk w g 5 cur ∧ cur.size = c ∧ bs.length ≤ c ∧ cur.toList.take bs.length = nums .u8 bs := by
  rcases h.2 with ⟨hv, hn⟩ | ⟨g, cap, cur, hv, hg, hb, h1, h2, h3, h4⟩
  · injection hv with a b c
    exact .inl ⟨a, List.length_eq_zero_iff.1 b, c⟩
  · injection hv with a b c
    subst c
    exact .inr ⟨g, cur, a, hg, hb, by simpa using h3, h1, by simpa using h4⟩
theorem Own.bin {w : World} {base : Nat} {A : Option Addr} {c : Nat} {bs : List Int} (h : Own w base A c bs) : BIn w A bs := fun hp => by
  rcases h.blk with ⟨_, hn, _⟩ | ⟨g, cur, rfl, hg, hb, h1, h2, h3⟩
  · rw [hn] at hp; cases hp
  · refine ⟨⟨g, 0, none⟩, rfl, hb.lt, fun i hi => ?_⟩
    rw [add_at, Nat.zero_add, hb.cell, ← Array.getElem?_toList]
    have : (cur.toList.take bs.length)[i]? = (nums .u8 bs)[i]? := by rw [h3]
    rw [List.getElem?_take_of_lt hi] at this
    rw [this]
    unfold nums
    rw [List.getElem?_map, List.getElem?_eq_getElem hi, List.getD_eq_getElem?_getD, List.getElem?_eq_getElem hi]
    rfl
theorem BIn.fr' {w w' : World} {A : Option Addr} {bs : List Int} {S : Nat → Prop} (h : BIn w A bs) (hf : Fr S w w') (hS : ∀ ad, A = some ad → 0 < bs.length → ¬ S ad.block) : BIn w' A bs := fun hp => by
  obtain ⟨ad, h1, h2, h3⟩ := h hp
  exact ⟨ad, h1, Nat.lt_of_lt_of_le h2 hf.size, fun i hi => (hf.cell (by rw [block_of_add]; exact h2) (by rw [block_of_add]; exact hS ad h1 hp)).trans (h3 i hi)⟩
theorem Own.far {w : World} {base : Nat} {A : Option Addr} {c : Nat} {bs : List Int} (h : Own w base A c bs) : ∀ ad, A = some ad → base ≤ ad.block := fun ad e => by
  rcases h.blk with ⟨hn, _⟩ | ⟨g, cur, rfl, hg, _⟩
  · rw [hn] at e; cases e
  · injection e with e
    rw [← e]
    exact hg
theorem Own.fr {w w' : World} {base : Nat} {A : Option Addr} {c : Nat} {bs : List Int} {S : Nat → Prop} (h : Own w base A c bs) (hf : Fr S w w') (hS : ∀ ad, A = some ad → ¬ S ad.block) : Own w' base A c bs := by
  rcases h.blk with ⟨rfl, rfl, rfl⟩ | ⟨g, cur, rfl, hg, hb, h1, h2, h3⟩
  · exact ⟨by simp [nums], .inl ⟨rfl, rfl⟩⟩
  · rcases h.2 with ⟨hv, hn⟩ | ⟨g', cap, cur', hv, hg', hb', r⟩
    · cases hv
    · injection hv with a b c
      injection a with a
      injection a with a
      subst a
      exact ⟨h.1, .inr ⟨g, cap, cur', by rw [c], hg', (hf.block g hb.lt (hS _ rfl)).trans hb', r⟩⟩
theorem c_of_bin {w : World} {A : Option Addr} {bs : List Int} (h : BIn w A bs) (hl : bs.length ≤ 1000000) : (Kd.int .u8).C w A bs.length bs := by
  refine ⟨rfl, by omega, fun hp => ?_⟩
  obtain ⟨ad, rfl, h1, h2⟩ := h hp
  refine ⟨ad, rfl, fun i p hi => ?_⟩
  have hlt : i < bs.length := by
    rcases Nat.lt_or_ge i bs.length with h' | h'
    · exact h'
    · rw [List.getElem?_eq_none h'] at hi
      cases hi
  refine ⟨[.int .u8 p], rfl, rfl, fun j u hu => ?_⟩
  have hj : j = 0 := by
    rcases Nat.eq_zero_or_pos j with h' | h'
    · exact h'
    · rw [List.getElem?_eq_none (by simp; omega)] at hu
      cases hu
  subst hj
  injection hu with hu
  subst hu
  have := h2 i hlt
  rw [List.getD_eq_getElem?_getD, hi] at this
  show w.cell? (ad.add (i * 1 + 0)) = _
  rw [Nat.mul_one, Nat.add_zero]
  exact this
def TwinP (bs : List Int) (w : World) (e : Ending) (w' : World) : Prop := ∃ A c, e = .returned (.slice A bs.length c) ∧ Own w' w.heap.size A c bs ∧ Fr (fun _ => False) w w'
theorem twin_any (A : Option Addr) (c : Nat) (bs : List Int) (w : World) (hb : BIn w A bs) (hc : bs.length ≤ c) (hl : bs.length ≤ 1000000) : Calls Try.prog 41 #[.slice A bs.length c] w (TwinP bs w) := by
  refine (fairleadlaw18_twin.calls A c bs bs w (c_of_bin hb hl) hc ?_).mono ?_
  · unfold fairleadlaw18_twin.f
    show (if ([] : List Int).length + bs.length < 140737488355328 then some ([] ++ bs) else none) = some bs
    rw [if_pos (by simp; omega), List.nil_append]
  · rintro e w' ⟨v, rfl, hR, hB⟩
    obtain ⟨A', c', rfl, _, _⟩ := Kd.R_reads hR
    obtain ⟨_, inner, ho, hr⟩ := hR
    have := Kd.reps_encs hr
    subst this
    exact ⟨A', c', rfl, ho, Fr.of_below hB⟩

theorem Upd.post {g : Nat} {s s' : Gs} {h' : Int} {w w1 w2 : World} {T : Nat → Prop} (a : Upd g s s' h' w w1) (hf : Fr T w1 w2) (hT : ∀ k, T k → (Foot g s k ∨ w.heap.size ≤ k) ∧ ¬ Foot g s' k) : Upd g s s' h' w w2 :=
  ⟨a.at_.fr hf (fun k hk ht => (hT k ht).2 hk), a.fr.then hf (fun i hi => (hT i hi).1), a.foot⟩
theorem setBox {S : Nat → Prop} {a w : World} {b : Nat} {v0 v1 v2 : Value} (h : Fr S a w) (hS : S b) : Fr S a (((w.setCell ⟨b, 0, none⟩ v0).setCell ⟨b, 1, none⟩ v1).setCell ⟨b, 2, none⟩ v2) := ((h.setAt (.inl hS)).setAt (.inl hS)).setAt (.inl hS)
def pcOf (x : S33) : Rs.Pc := ⟨x.f0, x.f1, x.f2, x.f3, x.f4, x.f5, x.f6⟩
def skOf (l : List S67) : List (Int × Int) := l.map fun y => (y.f0, y.f1)
def noMs : Rs.Ms := ⟨0, false, []⟩
/-- What doing something comes to. -/
def doR (s : Rs.St) (x : S38) : Rs.Ms × Bool × Int × Rs.St :=
  if x.f0 = 0 then (noMs, true, (Rs.put s (pcOf x.f1)).2, (Rs.put s (pcOf x.f1)).1)
  else if x.f0 = 1 then (noMs, true, (Rs.skip s x.f2.f0 (skOf x.f2.f1)).2, (Rs.skip s x.f2.f0 (skOf x.f2.f1)).1)
  else if x.f0 = 2 then (match Rs.take s with
    | none => (noMs, false, 0, s)
    | some (m, s') => (m, true, 0, s'))
  else (noMs, true, 0, s)
def DoP (g : Nat) (s : Gs) (r : Rs.Ms × Bool × Int × Rs.St) (w : World) (e : Ending) (w' : World) : Prop :=
  ∃ A c s', e = .returned (.tuple #[.agg #[.int .u16 r.1.stream, .bool r.1.ord, .slice A r.1.bytes.length c], .bool r.2.1, .int .i64 r.2.2.1]) ∧ Upd g s s' (Rs.held s'.abs) w w' ∧ s'.abs = r.2.2.2 ∧ BIn w' A r.1.bytes ∧ r.1.bytes.length ≤ c ∧
    (∀ ad, A = some ad → w.heap.size ≤ ad.block ∧ ¬ Foot g s' ad.block) ∧ s'.next.length = s.next.length ∧ s'.turns ≤ s.turns + 1 ∧ (∀ y ∈ s'.L, y.p.bytes.length ≤ 100000)
structure OpIn (w : World) (S : Nat → Prop) (x : S38) (A7 A9 : Option Addr) (c7 c9 : Nat) : Prop where
  b : BIn w A7 x.f1.f6
  nb : ∀ ad, A7 = some ad → 0 < x.f1.f6.length → ¬ S ad.block
  sk : Kd.C k67 w A9 x.f2.f1.length x.f2.f1
  c7 : x.f1.f6.length ≤ c7
  c9 : x.f2.f1.length ≤ c9
  q : Q38 x
  l1 : x.f1.f6.length ≤ 100000
  l2 : x.f2.f1.length ≤ 1000
theorem does_other (g : Nat) (s : Gs) (x : S38) (A7 A9 : Option Addr) (c7 c9 : Nat) (w : World) (hr : RsAt w g s (Rs.held s.abs)) (hlim : ∀ y ∈ s.L, y.p.bytes.length ≤ 100000) (h0 : x.f0 ≠ 0) (h1 : x.f0 ≠ 1) (h2 : x.f0 ≠ 2) :
    Calls Try.prog 29 #[.pointer (some ⟨g, 0, none⟩), .agg #[.int .i64 x.f0, .int .u32 x.f1.f0, .int .u16 x.f1.f1, .int .u16 x.f1.f2, .bool x.f1.f3, .bool x.f1.f4, .bool x.f1.f5, .slice A7 x.f1.f6.length c7, .int .u32 x.f2.f0, .slice A9 x.f2.f1.length c9]] w (DoP g s (doR s.abs x) w) := by
  have hR : doR s.abs x = (noMs, true, 0, s.abs) := by unfold doR; rw [if_neg h0, if_neg h1, if_neg h2]
  rw [hR]
  have b0 : (x.f0 == 0) = false := beq_eq_false_iff_ne.2 h0
  have b1 : (x.f0 == 1) = false := beq_eq_false_iff_ne.2 h1
  have b2 : (x.f0 == 2) = false := beq_eq_false_iff_ne.2 h2
  clear h0 h1 h2 hR
  go_enter Try.func29, Try.ntmps29
  go_wp2_with fail
  go_returns
  exact ⟨none, 0, s, rfl, (Upd.refl hr).fr0 (by repeat (first | (with_reducible exact Fr.refl _ _) | (with_reducible refine Fr.drewN ?_ _) | (with_reducible refine Fr.drew ?_) | (with_reducible refine Fr.alloc ?_ _))), rfl, bin_nil _, Nat.le_refl _, by simp, rfl, by omega, hlim⟩
set_option maxRecDepth 100000 in
set_option maxHeartbeats 4000000 in
theorem does_put (g : Nat) (s : Gs) (x : S38) (A7 A9 : Option Addr) (c7 c9 : Nat) (w : World) (hr : RsAt w g s (Rs.held s.abs)) (hlim : ∀ y ∈ s.L, y.p.bytes.length ≤ 100000) (ht : s.turns < 1000) (hh : Rs.held s.abs < 1000000000)
    (hin : OpIn w (Foot g s) x A7 A9 c7 c9) (h0 : x.f0 = 0) :
    Calls Try.prog 29 #[.pointer (some ⟨g, 0, none⟩), .agg #[.int .i64 x.f0, .int .u32 x.f1.f0, .int .u16 x.f1.f1, .int .u16 x.f1.f2, .bool x.f1.f3, .bool x.f1.f4, .bool x.f1.f5, .slice A7 x.f1.f6.length c7, .int .u32 x.f2.f0, .slice A9 x.f2.f1.length c9]] w (DoP g s (doR s.abs x) w) := by
  have hR : doR s.abs x = (noMs, true, (Rs.put s.abs (pcOf x.f1)).2, (Rs.put s.abs (pcOf x.f1)).1) := by unfold doR; rw [if_pos h0]
  rw [hR]
  have b0 : (x.f0 == 0) = true := beq_iff_eq.2 h0
  clear h0 hR
  have HT := Lib.hid ht
  have HH := Lib.hid hh
  have HLIM := Lib.hid hlim
  clear ht hh hlim
  have hb3 := Blk.new w 38 #[.int .i64 x.f0, .int .u32 x.f1.f0, .int .u16 x.f1.f1, .int .u16 x.f1.f2, .bool x.f1.f3, .bool x.f1.f4, .bool x.f1.f5, .slice A7 x.f1.f6.length c7, .int .u32 x.f2.f0, .slice A9 x.f2.f1.length c9]
  have hb4 := Blk.newAt (w.alloc (.cells #[.int .i64 x.f0, .int .u32 x.f1.f0, .int .u16 x.f1.f1, .int .u16 x.f1.f2, .bool x.f1.f3, .bool x.f1.f4, .bool x.f1.f5, .slice A7 x.f1.f6.length c7, .int .u32 x.f2.f0, .slice A9 x.f2.f1.length c9] 38)) 40 #[.int .u16 0, .bool false, .slice none 0 0] (w.heap.size + 1) (by simp)
  have hb7 := Blk.newAt ((w.alloc (.cells #[.int .i64 x.f0, .int .u32 x.f1.f0, .int .u16 x.f1.f1, .int .u16 x.f1.f2, .bool x.f1.f3, .bool x.f1.f4, .bool x.f1.f5, .slice A7 x.f1.f6.length c7, .int .u32 x.f2.f0, .slice A9 x.f2.f1.length c9] 38)).alloc (.cells #[.int .u16 0, .bool false, .slice none 0 0] 40)) 33 #[.int .u32 x.f1.f0, .int .u16 x.f1.f1, .int .u16 x.f1.f2, .bool x.f1.f3, .bool x.f1.f4, .bool x.f1.f5, .slice A7 x.f1.f6.length c7] (w.heap.size + 1 + 1) (by simp)
  replace hb4 := hb4.alloc (.cells #[.int .u32 x.f1.f0, .int .u16 x.f1.f1, .int .u16 x.f1.f2, .bool x.f1.f3, .bool x.f1.f4, .bool x.f1.f5, .slice A7 x.f1.f6.length c7] 33)
  replace hb3 := (hb3.alloc (.cells #[.int .u16 0, .bool false, .slice none 0 0] 40)).alloc (.cells #[.int .u32 x.f1.f0, .int .u16 x.f1.f1, .int .u16 x.f1.f2, .bool x.f1.f3, .bool x.f1.f4, .bool x.f1.f5, .slice A7 x.f1.f6.length c7] 33)
  go_enter Try.func29, Try.ntmps29
  go_wp2_with (go_at_call 41; refine (twin_any A7 c7 x.f1.f6 _ (hin.b.fr0 (by repeat (first | (with_reducible exact Fr.refl _ _) | (with_reducible refine Fr.drewN ?_ _) | (with_reducible refine Fr.drew ?_) | (with_reducible refine Fr.alloc ?_ _)))) hin.c7 (by have := hin.l1; omega)).mono ?_; rintro e w1 ⟨A, c, rfl, hO1, hF1⟩; replace hb3 := hb3.fr hF1 (fun h => h); replace hb4 := hb4.fr hF1 (fun h => h); replace hb7 := hb7.fr hF1 (fun h => h); obtain ⟨k3, l3, m3, f3⟩ := hb3.facts; obtain ⟨k4, l4, m4, f4⟩ := hb4.facts; obtain ⟨k7, l7, m7, f7⟩ := hb7.facts; have F2 : Fr (fun _ => False) w (w1.setCell ⟨w.heap.size + 1 + 1, 6, none⟩ (.slice A x.f1.f6.length c)) := (Fr.trans (S := fun _ => False) (a := w) (by repeat (first | (with_reducible exact Fr.refl _ _) | (with_reducible refine Fr.drewN ?_ _) | (with_reducible refine Fr.drew ?_) | (with_reducible refine Fr.alloc ?_ _))) hF1).setAt (.inr (by omega)))
  have hnf : ∀ k, w.heap.size ≤ k → ¬ Foot g s k := fun k hk hf => absurd (hr.foot_lt hf) (by omega)
  have hAf : ∀ ad, A = some ad → w.heap.size + 1 + 1 < ad.block := fun ad e => by have := hO1.far ad e; simp at this; omega
  have hbW : BIn (w1.setCell ⟨w.heap.size + 1 + 1, 6, none⟩ (.slice A x.f1.f6.length c)) A x.f1.f6 := hO1.bin.fr (S := (· = w.heap.size + 1 + 1)) ((Fr.refl _ _).setOne) (fun ad e h => by have := hAf ad e; omega)
  have hrW := hr.fr0 F2
  have HQ := hin.q.1
  clear k3 k4 k7
  go_at_call 42
  refine (put_any g s (pcOf x.f1) A c _ hrW HLIM.out HT.out HQ.2.1.1 HQ.2.1.2 HQ.2.2.1 HQ.2.2.2 HQ.1.1 HQ.1.2 hin.l1 HH.out hbW).mono ?_
  rintro e w2 ⟨rfl, s', hu, hab, hnl, htu, hl'⟩
  have HAB := Lib.hid hab
  have HNL := Lib.hid hnl
  have HTU := Lib.hid htu
  have HL' := Lib.hid hl'
  clear hab hnl htu hl'
  replace hb3 := (hb3.far (p := ⟨w.heap.size + 1 + 1, 6, none⟩) (by show w.heap.size ≠ w.heap.size + 1 + 1; omega) (.slice A x.f1.f6.length c)).fr hu.fr (hnf _ (by omega))
  replace hb4 := (hb4.far (p := ⟨w.heap.size + 1 + 1, 6, none⟩) (by show w.heap.size + 1 ≠ w.heap.size + 1 + 1; omega) (.slice A x.f1.f6.length c)).fr hu.fr (hnf _ (by omega))
  replace hb7 := (hb7.set 6 (.slice A x.f1.f6.length c)).fr hu.fr (hnf _ (by omega))
  have hAl : ∀ gA, A = some ⟨gA, 0, none⟩ → gA < (w1.setCell ⟨w.heap.size + 1 + 1, 6, none⟩ (.slice A x.f1.f6.length c)).heap.size := fun gA e => by
    subst e
    rcases hO1.blk with ⟨e, _⟩ | ⟨g', cur, e, _, hb, _⟩
    · cases e
    · injection e with e
      injection e with e
      subst e
      simpa using hb.lt
  have hOA : Own w2 w.heap.size A c x.f1.f6 := by
    have h1 : Own (w1.setCell ⟨w.heap.size + 1 + 1, 6, none⟩ (.slice A x.f1.f6.length c)) _ A c x.f1.f6 := hO1.fr (S := (· = w.heap.size + 1 + 1)) ((Fr.refl _ _).setOne) (fun ad e h => by have := hAf ad e; omega)
    exact own_weaken (h1.fr hu.fr (fun ad e => hnf _ (by have := hAf ad e; omega))) (by simp; omega)
  have hcA := hOA.bin.conv c
  have hcB := ((hin.b.fr0 F2).fr' hu.fr (fun ad e hp => hin.nb ad e hp)).conv c7
  have hcc : ((strOfNums x.f1.f6).toList == (strOfNums x.f1.f6).toList) = true := beq_self_eq_true _
  obtain ⟨k3, l3, m3, f3⟩ := hb3.facts
  obtain ⟨k4, l4, m4, f4⟩ := hb4.facts
  obtain ⟨k7, l7, m7, f7⟩ := hb7.facts
  have HIN := Lib.hid hin
  have HHU := Lib.hid hu
  have HF2 := Lib.hid F2
  have HOA := Lib.hid hOA
  have HAF := Lib.hid hAf
  have HAL := Lib.hid hAl
  clear hAl F2 hu hin hO1 hF1 hbW hrW HQ hOA hAf
  go_wp2_with fail
  have fin : ∀ w3, Fr (fun k => w.heap.size ≤ k ∧ ¬ Foot g s' k) w2 w3 → DoP g s (noMs, true, (Rs.put s.abs (pcOf x.f1)).2, (Rs.put s.abs (pcOf x.f1)).1) w (.returned (.tuple #[.agg #[.int .u16 0, .bool false, .slice none 0 0], .bool true, .int .i64 (Rs.put s.abs (pcOf x.f1)).2])) w3 := fun w3 hf =>
    ⟨none, 0, s', rfl, (Upd.pre HF2.out HHU.out).post hf (fun k hk => ⟨.inr hk.1, hk.2⟩), HAB.out, bin_nil _, Nat.le_refl _, (by intro ad e; cases e), HNL.out, HTU.out, HL'.out⟩
  have FIN := Lib.hid fin
  have hng4 : w.heap.size ≤ w.heap.size + 1 ∧ ¬ Foot g s' (w.heap.size + 1) := ⟨by omega, foot_after HHU.out (by simp; omega) (hnf _ (by omega))⟩
  clear fin
  rcases HOA.out.blk with ⟨rfl, hnil, rfl⟩ | ⟨gA, cur, rfl, hgA, hbA, hsz, hle, _⟩
  · have hz : x.f1.f6.length = 0 := by rw [hnil]; rfl
    have HZ := Lib.hid hz
    have hlt : decide ((0 : Int) < x.f1.f6.length) = false := decide_eq_false (by omega)
    have hlt2 : decide (0 < x.f1.f6.length) = false := decide_eq_false (by omega)
    have hlt3 : ¬ 0 < x.f1.f6.length := by omega
    clear hz hnil hcA hcB hcc
    go_loopg [10] 0 (fun k v wr => v = .int .i64 0 ∧ k = 0 ∧ wr = w2)
    case atStart => exact ⟨rfl, rfl, rfl⟩
    case round =>
      obtain ⟨rfl, _, rfl⟩ := hrel
      go_wp2_with fail
      refine bodyPost_ret (v := .tuple #[.agg #[.int .u16 0, .bool false, .slice none 0 0], .bool true, .int .i64 (Rs.put s.abs (pcOf x.f1)).2]) (by simp [results, Try.results29, go_sem, k4]) rfl ?_
      exact FIN.out _ (setBox (Fr.refl _ _) hng4)
  · have hAfg : w.heap.size + 1 + 1 < gA := HAF.out _ rfl
    have hng : ¬ Foot g s' gA := foot_after HHU.out (HAL.out _ rfl) (hnf _ (by omega))
    have hl1 := HIN.out.l1
    clear hcA hcB hcc
    go_loopg [10] x.f1.f6.length (fun k v wr => ∃ m : Nat, v = .int .i64 m ∧ m ≤ x.f1.f6.length ∧ k = x.f1.f6.length - m ∧ Fr (· = gA) w2 wr ∧ ∃ cur, Blk wr gA 5 cur ∧ cur.size = c)
    case atStart => exact ⟨0, rfl, Nat.zero_le _, rfl, Fr.refl _ _, cur, hbA, hsz⟩
    case round =>
      obtain ⟨m, rfl, hm1, hk, hF, cur', hb', hs'⟩ := hrel
      have HK := Lib.hid hk
      have HS' := Lib.hid hs'
      clear hk hs'
      have hbb7 := hb7.fr hF (by omega)
      have hbb4 := hb4.fr hF (by omega)
      obtain ⟨j7, n7, o7, p7⟩ := hbb7.facts
      obtain ⟨j4, n4, o4, p4⟩ := hbb4.facts
      by_cases hlt : m < x.f1.f6.length
      · have hd1 : decide ((m : Int) < x.f1.f6.length) = true := decide_eq_true (by omega)
        obtain ⟨u, hu⟩ : ∃ u, wr.cell? ⟨gA, m, none⟩ = some u := ⟨_, (hb'.cell m).trans (Array.getElem?_eq_getElem (by have := HS'.out; omega))⟩
        have pf := hb'.frozen m
        have pl := hb'.lt
        go_wp2_with fail
        go_roundg (x.f1.f6.length - (m + 1))
        case measure => rw [HK.out]; omega
        case rel => exact ⟨m + 1, rfl, hlt, rfl, hF.setOne, _, hb'.set m _, by rw [Array.size_setIfInBounds]; exact HS'.out⟩
      · have hd1 : decide ((m : Int) < x.f1.f6.length) = false := decide_eq_false (by omega)
        go_wp2_with fail
        refine bodyPost_ret (v := .tuple #[.agg #[.int .u16 0, .bool false, .slice none 0 0], .bool true, .int .i64 (Rs.put s.abs (pcOf x.f1)).2]) (by simp [results, Try.results29, go_sem, j4]) rfl ?_
        exact FIN.out _ (setBox (hF.mono (fun k _ e => by subst e; exact ⟨by omega, hng⟩)) hng4)
end Go.Proofs.Ytpkbckkminmdmaa
