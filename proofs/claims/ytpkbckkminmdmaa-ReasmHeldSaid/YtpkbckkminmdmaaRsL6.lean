/- does: a skip, a take; whatever is done. -/
import Derived.Test.YtpkbckkminmdmaaRsL5
namespace Go.Proofs.Ytpkbckkminmdmaa
open Go.RowKit Go.Proofs.YtpkbckkminmdmaaW.PrintWords Go.Proofs.YtpkbckkminmdmaaW.PrintMore Go.Proofs.Ytpkbckkminmdmaa.PReasmHeld
attribute [local go_sem] alloc_drewN setCell_drewN isMap_alloc isMap_drew isMap_drewN isMap_setCell cell_setMap frozen_setMap setMap_drew setMap_drewN size_setMap field_piece0 field_data1 field_data3 field_data6

theorem Rs.take_held {s s' : Rs.St} {m : Rs.Ms} (h : Rs.take s = some (m, s')) : Rs.held s' = Rs.held s - m.bytes.length ∧ s'.L = s.L ∧ s'.next = s.next ∧ s.row = m :: s'.row := by
  unfold Rs.take at h
  cases hr : s.row with
  | nil => rw [hr] at h; cases h
  | cons x r =>
    rw [hr] at h
    injection h with h
    injection h with h1 h2
    subst h1 h2
    refine ⟨?_, rfl, rfl, rfl⟩
    rw [Rs.held_eq, Rs.held_eq, hr]
    simp only [Rs.bytesOfM, List.map_cons, List.sum_cons]
    omega
def takeR (s : Rs.St) : Rs.Ms × Bool × Int × Rs.St := match Rs.take s with
  | none => (noMs, false, 0, s)
  | some (m, s') => (m, true, 0, s')
def TakeQ (g : Nat) (s : Gs) (r : Rs.Ms × Bool × Int × Rs.St) (w : World) (e : Ending) (w' : World) : Prop :=
  ∃ A c s', e = .returned (.tuple #[.agg #[.int .u16 r.1.stream, .bool r.1.ord, .slice A r.1.bytes.length c], .bool r.2.1]) ∧ Upd g s s' (Rs.held s'.abs) w w' ∧ s'.abs = r.2.2.2 ∧ r.1.bytes.length ≤ c ∧
    ((A = none ∧ r.1.bytes = []) ∨ ∃ b, A = some ⟨b, 0, none⟩ ∧ Byt w' b c r.1.bytes ∧ ¬ Foot g s' b ∧ Foot g s b) ∧ s'.next.length = s.next.length ∧ s'.turns = s.turns ∧ s'.L = s.L ∧ r.1.bytes.length ≤ 1000000
theorem take_all (g : Nat) (s : Gs) (w : World) (hr : RsAt w g s (Rs.held s.abs)) (hh : Rs.held s.abs ≤ 1000000) : Calls Try.prog 37 #[.pointer (some ⟨g, 0, none⟩)] w (TakeQ g s (takeR s.abs) w) := by
  unfold takeR
  cases ht : Rs.take s.abs with
  | none =>
    have hrow : s.row = [] := by
      unfold Rs.take at ht
      cases h : s.row with
      | nil => rfl
      | cons x r => rw [show s.abs.row = s.row.map (·.m) from rfl, h] at ht; cases ht
    refine (take_none hr hrow).mono ?_
    rintro e w' ⟨rfl, hf⟩
    exact ⟨none, 0, s, rfl, (Upd.refl hr).fr0 hf, rfl, Nat.le_refl _, .inl ⟨rfl, rfl⟩, rfl, rfl, rfl, Nat.zero_le _⟩
  | some p =>
    obtain ⟨m, st⟩ := p
    obtain ⟨h1, _⟩ := Rs.take_held ht
    have h2 := held_nonneg st
    refine (take_any g s m st w hr (by omega) ht).mono ?_
    rintro e w' ⟨b, c, s', rfl, hu, hab, hn, htu, hL, hb, hnb, hfb⟩
    obtain ⟨_, _, hle, _⟩ := hb.blk
    exact ⟨some ⟨b, 0, none⟩, c, s', rfl, hu, hab, hle, .inr ⟨b, rfl, hb, hnb, hfb⟩, by rw [hn], htu, hL, by show m.bytes.length ≤ _; omega⟩
theorem sk_cells : ∀ (l : List S67) (inner : List Value) (W : World) (base : Nat) (ok : Nat → Prop), Reps (k67.M W base ok) 2 l inner → inner = skCells (skOf l)
  | [], inner, _, _, _, h => by
    have := h.1
    rw [show inner = [] from List.length_eq_zero_iff.1 (by simpa using this)]
    rfl
  | x :: l, inner, W, base, ok, h => by
    have hl : inner.length = (l.length + 1) * 2 := h.1
    have h0 := k67_openM (h.2 0 x rfl)
    rw [Nat.zero_mul, List.drop_zero] at h0
    have hr : Reps (k67.M W base ok) 2 l (inner.drop 2) := by
      refine ⟨by rw [List.length_drop, hl]; omega, fun j p hp => ?_⟩
      have := h.2 (j + 1) p hp
      rw [List.drop_drop, show 2 + j * 2 = (j + 1) * 2 by omega]
      exact this
    have ih := sk_cells l _ W base ok hr
    rw [← List.take_append_drop 2 inner, h0, ih]
    rfl
theorem skin_of_R {w : World} {base : Nat} {ok : Nat → Prop} {A : Option Addr} {n c : Nat} {l : List S67} {S : Nat → Prop} (h : k67.R 67 w base ok (.slice A n c) l) (hS : ∀ k, base ≤ k → k < w.heap.size → ¬ S k) : SkIn w A (skOf l) S := fun hp => by
  obtain ⟨_, inner, ho, hr⟩ := h
  have := sk_cells l inner _ _ _ hr
  subst this
  rcases ho.2 with ⟨hv, hn⟩ | ⟨g, cap, cur, hv, hg, hb, h1, h2, h3, h4⟩
  · unfold skOf at hp
    rw [List.length_map, hn] at hp
    exact absurd hp (Nat.lt_irrefl _)
  · injection hv with a b c
    subst a
    refine ⟨g, 0, rfl, blk_lt hb, hS g hg (blk_lt hb), fun j u hu => ?_⟩
    subst b
    have := ho.cells (g := g) rfl j u hu
    rwa [add_plain, ← Nat.zero_add j] at this
theorem k67_scalar {w w' : World} {base : Nat} {ok : Nat → Prop} {x : S67} {cs : List Value} (h : k67.K w x cs) : k67.M w' base ok x cs := by
  obtain rfl := k67_open h
  exact k67_mkM _ _ _ _
theorem info67 : (Try.prog.info? 67).map (fun i => (i.zero, i.size, i.bytes)) = some (some (.agg #[.int .u16 0, .int .u16 0]), 2, 4) := by kernel_rfl
set_option maxRecDepth 100000 in
set_option maxHeartbeats 4000000 in
theorem does_skip (g : Nat) (s : Gs) (x : S38) (A7 A9 : Option Addr) (c7 c9 : Nat) (w : World) (hr : RsAt w g s (Rs.held s.abs)) (hlim : ∀ y ∈ s.L, y.p.bytes.length ≤ 100000) (ht : s.turns < 1000) (hh : Rs.held s.abs < 1000000000)
    (hin : OpIn w (Foot g s) x A7 A9 c7 c9) (h0 : x.f0 = 1) :
    Calls Try.prog 29 #[.pointer (some ⟨g, 0, none⟩), .agg #[.int .i64 x.f0, .int .u32 x.f1.f0, .int .u16 x.f1.f1, .int .u16 x.f1.f2, .bool x.f1.f3, .bool x.f1.f4, .bool x.f1.f5, .slice A7 x.f1.f6.length c7, .int .u32 x.f2.f0, .slice A9 x.f2.f1.length c9]] w (DoP g s (doR s.abs x) w) := by
  have hR : doR s.abs x = (noMs, true, (Rs.skip s.abs x.f2.f0 (skOf x.f2.f1)).2, (Rs.skip s.abs x.f2.f0 (skOf x.f2.f1)).1) := by unfold doR; rw [if_neg (by omega), if_pos h0]
  rw [hR]
  have b0 : (x.f0 == 0) = false := beq_eq_false_iff_ne.2 (by omega)
  have b1 : (x.f0 == 1) = true := beq_iff_eq.2 h0
  clear h0 hR
  have HT := Lib.hid ht
  have HH := Lib.hid hh
  have HLIM := Lib.hid hlim
  clear ht hh hlim
  have HIN := Lib.hid hin
  have HC := Lib.hid hin.sk
  clear hin
  have HB := Lib.hid (Below.refl w.heap.size w)
  have hb3 := Blk.new w 38 #[.int .i64 x.f0, .int .u32 x.f1.f0, .int .u16 x.f1.f1, .int .u16 x.f1.f2, .bool x.f1.f3, .bool x.f1.f4, .bool x.f1.f5, .slice A7 x.f1.f6.length c7, .int .u32 x.f2.f0, .slice A9 x.f2.f1.length c9]
  have hb4 := Blk.newAt (w.alloc (.cells #[.int .i64 x.f0, .int .u32 x.f1.f0, .int .u16 x.f1.f1, .int .u16 x.f1.f2, .bool x.f1.f3, .bool x.f1.f4, .bool x.f1.f5, .slice A7 x.f1.f6.length c7, .int .u32 x.f2.f0, .slice A9 x.f2.f1.length c9] 38)) 40 #[.int .u16 0, .bool false, .slice none 0 0] (w.heap.size + 1) (by simp)
  have hb11 := Blk.newAt ((w.alloc (.cells #[.int .i64 x.f0, .int .u32 x.f1.f0, .int .u16 x.f1.f1, .int .u16 x.f1.f2, .bool x.f1.f3, .bool x.f1.f4, .bool x.f1.f5, .slice A7 x.f1.f6.length c7, .int .u32 x.f2.f0, .slice A9 x.f2.f1.length c9] 38)).alloc (.cells #[.int .u16 0, .bool false, .slice none 0 0] 40)) 36 #[.int .u32 x.f2.f0, .slice A9 x.f2.f1.length c9] (w.heap.size + 1 + 1) (by simp)
  replace hb4 := hb4.alloc (.cells #[.int .u32 x.f2.f0, .slice A9 x.f2.f1.length c9] 36)
  replace hb3 := (hb3.alloc (.cells #[.int .u16 0, .bool false, .slice none 0 0] 40)).alloc (.cells #[.int .u32 x.f2.f0, .slice A9 x.f2.f1.length c9] 36)
  go_enter Try.func29, Try.ntmps29
  go_wp2_with (first
    | ((with_reducible refine gate_dst (N := 56) rfl ?_); refine Kd.R_lit k67 (w0 := w) w.heap.size 67 ?hg (N := 56) ?hd (xs := ([] : List S67)) (inner := []) (ok := fun _ => True) (okp := fun _ => True) ?hr ?hp (fun _ hk => hk) trivial (by repeat (first | exact Below.refl _ _ | apply below_alloc)) (by simp; omega) (by simp) ?_; (case hd => rfl); (case hg => rfl); (case hr => first | (go_simp; done) | (go_simp; rfl)); (case hp => exact (Reps.none _ _)); intro v3 w3 hR3 hB3 hG3 hN3; have HR3 := Lib.hid hR3; have HB3 := Lib.hid hB3; have F3 := (Fr.refl (fun _ => False) _).grown hG3 (fun k e => by cases e); replace hb3 := hb3.fr F3 (fun h => h); replace hb4 := hb4.fr F3 (fun h => h); replace hb11 := hb11.fr F3 (fun h => h); have HN3 := Lib.hid hN3; have HF3 := Lib.hid F3; clear hR3 hB3 hN3 hG3 F3; obtain ⟨k3, l3, m3, f3⟩ := hb3.facts)
    | ((with_reducible refine gate_builtin (b := .append) (xs := #[.tmp 56, .tmp 59]) rfl ?_); at_builtin; (have HX : ∀ x cs, k67.K w3 x cs → k67.M w3 w.heap.size (fun _ => False) x cs := fun _ _ h => k67_scalar h); (have HL : (([] : List S67).length + x.f2.f1.length) * 4 ≤ 140737488355328 := by have := HIN.out.l2; simp; omega); have HS : w.heap.size ≤ w3.heap.size := HB3.out.size; have HCC := Kd.C_below HC.out HB3.out; (refine Kd.R_append_rows k67 (Rr := k67.K w3) (w0 := w) w.heap.size rfl (.tmp 56) (.tmp 59) 34 67 (.agg #[.int .u16 0, .int .u16 0]) 4 rfl Try.underlying34 info67 rfl (by show 0 < 2; decide) (by omega) v3 [] x.f2.f1 A9 x.f2.f1.length c9 (fun _ => True) (fun _ => False) rfl rfl HR3.out HCC HX (fun _ h => h.elim) (fun _ _ => trivial) HB3.out HS HL ?_); intro v4 w4 hR4 hB4 hG4 hN4; clear HX HL HS HCC k3 l3 m3 f3; have hnb : ∀ k, v3.ownBlock = some k → w.heap.size + 1 + 1 < k := (fun k e => by obtain ⟨b, hb1, hb2⟩ := HN3.out; rw [hb1] at e; injection e with e; simp at hb2; omega); have F4 := grown_fr hG4; replace hb3 := hb3.fr F4 (fun h => by have := hnb _ h; omega); replace hb4 := hb4.fr F4 (fun h => by have := hnb _ h; omega); replace hb11 := hb11.fr F4 (fun h => by have := hnb _ h; omega); have F4' : Fr (fun _ => False) w w4 := Fr.of_below hB4; obtain ⟨A, c, rfl, hcl, _⟩ := Kd.R_reads hR4; rw [List.nil_append] at hR4 hcl; rw [List.nil_append]; have HR4 := Lib.hid hR4; have HF4 := Lib.hid F4'; clear hR4 hG4 hN4 hB4 F4 F4' hnb; obtain ⟨k11, l11, m11, f11⟩ := hb11.facts))
  have hsl : (skOf x.f2.f1).length = x.f2.f1.length := by unfold skOf; rw [List.length_map]
  have F5 : Fr (fun _ => False) w (w4.setCell ⟨w.heap.size + 1 + 1, 1, none⟩ (.slice A x.f2.f1.length c)) := HF4.out.setAt (.inr (by omega))
  have hnf : ∀ k, w.heap.size ≤ k → ¬ Foot g s k := fun k hk hf => absurd (hr.foot_lt hf) (by omega)
  have hsk := skin_of_R (S := Foot g s) (Kd.R_set HR4.out hb11 (fun q hq => by have : q = 67 := (by simpa using (show q ∈ [67] from hq)); subst this; decide) 1 (.slice A x.f2.f1.length c)) (fun k hk _ => hnf k hk)
  have hrg : ∀ y ∈ skOf x.f2.f1, 0 ≤ y.1 ∧ y.1 < 65536 ∧ 0 ≤ y.2 ∧ y.2 < 65536 := by
    intro y hy
    unfold skOf at hy
    obtain ⟨z, hz, rfl⟩ := List.mem_map.1 hy
    have := HIN.out.q.2 z hz
    exact ⟨this.1.1, this.1.2, this.2.1, this.2.2⟩
  have hcall := skipn_any g s x.f2.f0 (skOf x.f2.f1) A c _ (hr.fr0 F5) ⟨by have := HT.out; omega, HLIM.out⟩ HH.out hrg (by rw [hsl]; exact HIN.out.l2) hsk
  rw [hsl] at hcall
  clear hsk
  go_at_call 46
  refine hcall.mono ?_
  clear hcall k11 hsl
  rintro e w5 ⟨rfl, s', hu, hab, hsm, hl', _⟩
  replace hb4 := (hb4.far (p := ⟨w.heap.size + 1 + 1, 1, none⟩) (by show w.heap.size + 1 ≠ w.heap.size + 1 + 1; omega) (.slice A x.f2.f1.length c)).fr hu.fr (hnf _ (by omega))
  obtain ⟨k4, l4, m4, f4⟩ := hb4.facts
  have HU := Lib.hid hu
  have HAB := Lib.hid hab
  have HSM := Lib.hid hsm
  have HL' := Lib.hid hl'
  have HF5 := Lib.hid F5
  clear hu hab hsm hl' F5
  go_wp2_with fail
  refine bodyPost_ret (v := .tuple #[.agg #[.int .u16 0, .bool false, .slice none 0 0], .bool true, .int .i64 (Rs.skip s.abs x.f2.f0 (skOf x.f2.f1)).2]) (by simp [results, Try.results29, go_sem, k4, l4, f4]) rfl ?_
  have hng4 : ¬ Foot g s' (w.heap.size + 1) := foot_after HU.out (by simp; omega) (hnf _ (by omega))
  refine ⟨none, 0, s', rfl, (Upd.pre HF5.out HU.out).post (T := (· = w.heap.size + 1)) (setBox (Fr.refl _ _) rfl) (fun k hk => by subst hk; exact ⟨.inr (by omega), hng4⟩), HAB.out, bin_nil _, Nat.le_refl _, (by intro ad e; cases e), by rw [HSM.out.next], by rw [HSM.out.turns]; omega, HL'.out.2⟩
set_option maxRecDepth 100000 in
set_option maxHeartbeats 4000000 in
theorem does_take (g : Nat) (s : Gs) (x : S38) (A7 A9 : Option Addr) (c7 c9 : Nat) (w : World) (hr : RsAt w g s (Rs.held s.abs)) (hlim : ∀ y ∈ s.L, y.p.bytes.length ≤ 100000) (hh : Rs.held s.abs ≤ 1000000) (h0 : x.f0 = 2) :
    Calls Try.prog 29 #[.pointer (some ⟨g, 0, none⟩), .agg #[.int .i64 x.f0, .int .u32 x.f1.f0, .int .u16 x.f1.f1, .int .u16 x.f1.f2, .bool x.f1.f3, .bool x.f1.f4, .bool x.f1.f5, .slice A7 x.f1.f6.length c7, .int .u32 x.f2.f0, .slice A9 x.f2.f1.length c9]] w (DoP g s (doR s.abs x) w) := by
  have hR : doR s.abs x = takeR s.abs := by unfold doR takeR; rw [if_neg (by omega), if_neg (by omega), if_pos h0]; rfl
  rw [hR]
  have b0 : (x.f0 == 0) = false := beq_eq_false_iff_ne.2 (by omega)
  have b1 : (x.f0 == 1) = false := beq_eq_false_iff_ne.2 (by omega)
  have b2 : (x.f0 == 2) = true := beq_iff_eq.2 h0
  clear h0 hR
  have hnf : ∀ k, w.heap.size ≤ k → ¬ Foot g s k := fun k hk hf => absurd (hr.foot_lt hf) (by omega)
  have hcode : (takeR s.abs).2.2.1 = 0 := by unfold takeR; split <;> rfl
  generalize hrr : takeR s.abs = rr at hcode ⊢
  have HRR := Lib.hid hrr
  clear hrr
  obtain ⟨m, is, code, st⟩ := rr
  obtain rfl : code = 0 := hcode
  have HLIM := Lib.hid hlim
  have HH := Lib.hid hh
  have HR := Lib.hid hr
  clear hlim hh hr
  have hb4 := Blk.newAt (w.alloc (.cells #[.int .i64 x.f0, .int .u32 x.f1.f0, .int .u16 x.f1.f1, .int .u16 x.f1.f2, .bool x.f1.f3, .bool x.f1.f4, .bool x.f1.f5, .slice A7 x.f1.f6.length c7, .int .u32 x.f2.f0, .slice A9 x.f2.f1.length c9] 38)) 40 #[.int .u16 0, .bool false, .slice none 0 0] (w.heap.size + 1) (by simp)
  go_enter Try.func29, Try.ntmps29
  go_wp2_with fail
  go_at_call 37
  refine (take_all g s _ (HR.out.fr0 (by repeat (first | (with_reducible exact Fr.refl _ _) | (with_reducible refine Fr.drewN ?_ _) | (with_reducible refine Fr.drew ?_) | (with_reducible refine Fr.alloc ?_ _)))) HH.out).mono ?_
  rw [HRR.out]
  rintro e w1 ⟨A, c, s', rfl, hu, hab, hle, hA, hnx, htu, hL, hbl⟩
  replace hb4 := hb4.fr hu.fr (hnf _ (by omega))
  have hbin : BIn w1 A m.bytes := by
    rcases hA with ⟨rfl, e⟩ | ⟨b, rfl, hb, _⟩
    · have e' : m.bytes = [] := e
      rw [e']
      exact bin_nil _
    · exact hb.bin
  have hlt1 : ∀ k, Foot g s' k → k < w1.heap.size := fun k hk => hu.at_.foot_lt hk
  have h41 : w.heap.size + 1 < w1.heap.size := hb4.lt
  have hb12 := (Blk.new w1 40 #[.int .u16 m.stream, .bool m.ord, .slice A m.bytes.length c]).alloc (.cells #[.int .u16 m.stream, .bool m.ord, .slice A m.bytes.length c] 40)
  have hb14 := Blk.newAt (w1.alloc (.cells #[.int .u16 m.stream, .bool m.ord, .slice A m.bytes.length c] 40)) 40 #[.int .u16 m.stream, .bool m.ord, .slice A m.bytes.length c] (w1.heap.size + 1) (by simp)
  have htw := twin_any A c m.bytes ((w1.alloc (.cells #[.int .u16 m.stream, .bool m.ord, .slice A m.bytes.length c] 40)).alloc (.cells #[.int .u16 m.stream, .bool m.ord, .slice A m.bytes.length c] 40)) (hbin.fr0 (by repeat (first | (with_reducible exact Fr.refl _ _) | (with_reducible refine Fr.drewN ?_ _) | (with_reducible refine Fr.drew ?_) | (with_reducible refine Fr.alloc ?_ _)))) hle hbl
  have HU := Lib.hid hu
  have HAB := Lib.hid hab
  have HA := Lib.hid hA
  have HNX := Lib.hid hnx
  have HTU := Lib.hid htu
  have HL := Lib.hid hL
  have HLT := Lib.hid hlt1
  clear hu hab hA hnx htu hL hlt1 hbin
  go_wp2_with fail
  go_at_call 41
  refine htw.mono ?_
  clear htw
  rintro e w2 ⟨A2, c2, rfl, hO2, hF2⟩
  have F12 : Fr (fun _ => False) w1 w2 := Fr.trans (S := fun _ => False) (by repeat (first | (with_reducible exact Fr.refl _ _) | (with_reducible refine Fr.drewN ?_ _) | (with_reducible refine Fr.drew ?_) | (with_reducible refine Fr.alloc ?_ _))) hF2
  replace hb4 := hb4.fr F12 (fun h => h)
  replace hb12 := hb12.fr hF2 (fun h => h)
  replace hb14 := hb14.fr hF2 (fun h => h)
  obtain ⟨k4, l4, m4, f4⟩ := hb4.facts
  obtain ⟨k12, l12, m12, f12⟩ := hb12.facts
  obtain ⟨k14, l14, m14, f14⟩ := hb14.facts
  have hA2 : ∀ ad, A2 = some ad → w1.heap.size + 1 < ad.block := fun ad e => by have := hO2.far ad e; simp at this; omega
  have HO2 := Lib.hid hO2
  have HF12 := Lib.hid F12
  have HA2 := Lib.hid hA2
  clear hO2 hF2 F12 hA2
  go_wp2_with fail
  clear k4 k12 k14 f4 f12 f14
  replace hb14 := hb14.set 2 (.slice A2 m.bytes.length c2)
  replace hb12 := hb12.far (p := ⟨w1.heap.size + 1, 2, none⟩) (by show w1.heap.size ≠ w1.heap.size + 1; omega) (.slice A2 m.bytes.length c2)
  replace hb4 := hb4.far (p := ⟨w1.heap.size + 1, 2, none⟩) (by show w.heap.size + 1 ≠ w1.heap.size + 1; omega) (.slice A2 m.bytes.length c2)
  have F13 : Fr (fun _ => False) w1 (w2.setCell ⟨w1.heap.size + 1, 2, none⟩ (.slice A2 m.bytes.length c2)) := HF12.out.setAt (.inr (by omega))
  have hbin2 : BIn (w2.setCell ⟨w1.heap.size + 1, 2, none⟩ (.slice A2 m.bytes.length c2)) A2 m.bytes := HO2.out.bin.fr (S := (· = w1.heap.size + 1)) ((Fr.refl _ _).setOne) (fun ad e h => by have := HA2.out ad e; omega)
  generalize hW3 : w2.setCell ⟨w1.heap.size + 1, 2, none⟩ (.slice A2 m.bytes.length c2) = w3 at hb14 hb12 hb4 F13 hbin2 ⊢
  clear hW3
  have hng4 : ¬ Foot g s' (w.heap.size + 1) := foot_after HU.out (by simp) (hnf _ (by omega))
  have fin : ∀ w4, Fr (fun k => (Foot g s k ∨ w.heap.size ≤ k) ∧ k < w1.heap.size ∧ ¬ Foot g s' k) w3 w4 → DoP g s (m, is, 0, st) w (.returned (.tuple #[.agg #[.int .u16 m.stream, .bool m.ord, .slice A2 m.bytes.length c2], .bool is, .int .i64 0])) w4 := fun w4 hf =>
    ⟨A2, c2, s', rfl, ((Upd.pre (by repeat (first | (with_reducible exact Fr.refl _ _) | (with_reducible refine Fr.drewN ?_ _) | (with_reducible refine Fr.drew ?_) | (with_reducible refine Fr.alloc ?_ _))) HU.out).fr0 F13).post hf (fun k hk => ⟨hk.1, hk.2.2⟩), HAB.out, hbin2.fr hf (fun ad e hk => by have := HA2.out ad e; have := hk.2.1; omega), (by obtain h := HO2.out.blk; rcases h with ⟨_, h2, h3⟩ | ⟨_, _, _, _, _, _, h2, _⟩ <;> first | (rw [h2]; exact Nat.zero_le _) | exact h2), fun ad e => ⟨by have := HA2.out ad e; omega, fun hk => by have := HLT.out _ hk; have := HA2.out ad e; omega⟩, HNX.out, by rw [HTU.out]; omega, by rw [HL.out]; exact HLIM.out⟩
  have FIN := Lib.hid fin
  clear fin
  obtain ⟨k4, l4, m4, f4⟩ := hb4.facts
  obtain ⟨k12, l12, m12, f12⟩ := hb12.facts
  obtain ⟨k14, l14, m14, f14⟩ := hb14.facts
  rcases HA.out with ⟨rfl, hnil⟩ | ⟨b, rfl, hby, hnb, hfb⟩
  · have hz : m.bytes.length = 0 := by rw [show m.bytes = [] from hnil]; rfl
    have HZ := Lib.hid hz
    have hlt : decide ((0 : Int) < m.bytes.length) = false := decide_eq_false (by omega)
    have hlt2 : decide (0 < m.bytes.length) = false := decide_eq_false (by omega)
    have hlt3 : ¬ 0 < m.bytes.length := by omega
    clear hz hnil
    go_loopg [15] 0 (fun k v wr => v = .int .i64 0 ∧ k = 0 ∧ wr = w3)
    case atStart => exact ⟨rfl, rfl, rfl⟩
    case round =>
      obtain ⟨rfl, _, rfl⟩ := hrel
      go_wp2_with fail
      refine bodyPost_ret (v := .tuple #[.agg #[.int .u16 m.stream, .bool m.ord, .slice A2 m.bytes.length c2], .bool is, .int .i64 0]) (by simp [results, Try.results29, go_sem, k4, l4, f4, k14, l14, f14]) rfl ?_
      exact FIN.out _ (setBox (Fr.refl _ _) ⟨.inr (by omega), h41, hng4⟩)
  · obtain ⟨cur, hcur, hle2, hsz, _⟩ := hby.blk
    have hblt : b < w1.heap.size := hcur.lt
    have hcur3 := hcur.fr F13 (fun h => h)
    have hb4n : w.heap.size + 1 ≠ b := fun e => by subst e; exact absurd hfb (hnf _ (by omega))
    have HCUR := Lib.hid hcur3
    have HSZ := Lib.hid hsz
    clear hcur hcur3 hsz hby
    go_loopg [15] m.bytes.length (fun k v wr => ∃ q : Nat, v = .int .i64 q ∧ q ≤ m.bytes.length ∧ k = m.bytes.length - q ∧ Fr (· = b) w3 wr ∧ ∃ cur, Blk wr b 5 cur ∧ cur.size = c)
    case atStart => exact ⟨0, rfl, Nat.zero_le _, rfl, Fr.refl _ _, cur, HCUR.out, HSZ.out⟩
    case round =>
      obtain ⟨q, rfl, hm1, hk, hF, cur', hb', hs'⟩ := hrel
      have HK := Lib.hid hk
      have HS' := Lib.hid hs'
      clear hk hs' k4 k12 k14 f4 f12 f14
      obtain ⟨j4, n4, o4, p4⟩ := (hb4.fr hF hb4n).facts
      obtain ⟨j12, n12, o12, p12⟩ := (hb12.fr hF (by omega)).facts
      obtain ⟨j14, n14, o14, p14⟩ := (hb14.fr hF (by omega)).facts
      by_cases hlt : q < m.bytes.length
      · have hd1 : decide ((q : Int) < m.bytes.length) = true := decide_eq_true (by omega)
        obtain ⟨u, hu⟩ : ∃ u, wr.cell? ⟨b, q, none⟩ = some u := ⟨_, (hb'.cell q).trans (Array.getElem?_eq_getElem (by have := HS'.out; omega))⟩
        have pf := hb'.frozen q
        have pl := hb'.lt
        go_wp2_with fail
        go_roundg (m.bytes.length - (q + 1))
        case measure => rw [HK.out]; omega
        case rel => exact ⟨q + 1, rfl, hlt, rfl, hF.setOne, _, hb'.set q _, by rw [Array.size_setIfInBounds]; exact HS'.out⟩
      · have hd1 : decide ((q : Int) < m.bytes.length) = false := decide_eq_false (by omega)
        go_wp2_with fail
        refine bodyPost_ret (v := .tuple #[.agg #[.int .u16 m.stream, .bool m.ord, .slice A2 m.bytes.length c2], .bool is, .int .i64 0]) (by simp [results, Try.results29, go_sem, j4, n4, p4, j14, n14, p14]) rfl ?_
        exact FIN.out _ (setBox (hF.mono (fun k _ e => by subst e; exact ⟨.inl hfb, hblt, hnb⟩)) ⟨.inr (by omega), h41, hng4⟩)
end Go.Proofs.Ytpkbckkminmdmaa
