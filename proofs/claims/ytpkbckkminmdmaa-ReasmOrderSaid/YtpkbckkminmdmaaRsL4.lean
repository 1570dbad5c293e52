/- vast; the walk of ReasmNil. -/
import Derived.Test.YtpkbckkminmdmaaRsL3
import Derived.Test.YtpkbckkminmdmaaOpn
import Derived.Test.YtpkbckkminmdmaaPReasmHeldx1
namespace Go.Proofs.Ytpkbckkminmdmaa
open Go.RowKit Go.Proofs.YtpkbckkminmdmaaW.PrintWords Go.Proofs.YtpkbckkminmdmaaW.PrintMore Go.Proofs.Ytpkbckkminmdmaa.PReasmHeld
attribute [local go_sem] alloc_drewN setCell_drewN isMap_alloc isMap_drew isMap_drewN isMap_setCell cell_setMap frozen_setMap setMap_drew setMap_drewN size_setMap field_piece0 field_data1 field_data3 field_data6

def opBytes (l : List S38) : Int := (l.map fun x => (x.f1.f6.length : Int)).sum
def opSkips (l : List S38) : Int := (l.map fun x => (x.f2.f1.length : Int)).sum
theorem wrap64_small {n : Int} (h0 : 0 ≤ n) (h1 : n < 9223372036854775808) : wrap64 n = n := by
  unfold wrap64
  omega
set_option maxRecDepth 100000 in
theorem vast_loop (l : List S38) (hl : l.length ≤ 80) : ∀ (m i : Nat) (n s : Int), i + m = l.length → 0 ≤ n → n ≤ 32768 → 0 ≤ s → s ≤ 12 →
    ∃ r, fairleadlaw18_vast.l0 (m + 1) l n s i = some r ∧ (r = false → n + opBytes (l.drop i) ≤ 32768 ∧ s + opSkips (l.drop i) ≤ 12)
  | 0, i, n, s, hi, h0, h1, h2, h3 => by
    refine ⟨false, ?_, fun _ => ?_⟩
    · unfold fairleadlaw18_vast.l0
      rw [if_neg (by omega)]
    · rw [List.drop_eq_nil_of_le (by omega)]
      simp [opBytes, opSkips, h1, h3]
  | m + 1, i, n, s, hi, h0, h1, h2, h3 => by
    have hlt : i < l.length := by omega
    have hd : l.drop i = l[i] :: l.drop (i + 1) := List.drop_eq_getElem_cons hlt
    have hrd : rd_T38 l (i : Int) = l[i] := by
      unfold rd_T38
      rw [Int.toNat_natCast, List.getD_eq_getElem?_getD, List.getElem?_eq_getElem hlt]
      rfl
    have hb0 : (0 : Int) ≤ l[i].f1.f6.length := by omega
    have hs0 : (0 : Int) ≤ l[i].f2.f1.length := by omega
    have hmb : mn (l[i].f1.f6.length : Int) 131072 = if (131072 : Int) < (l[i].f1.f6.length : Int) then (131072 : Int) else (l[i].f1.f6.length : Int) := rfl
    have hms : mn (l[i].f2.f1.length : Int) 100 = if (100 : Int) < (l[i].f2.f1.length : Int) then (100 : Int) else (l[i].f2.f1.length : Int) := rfl
    have hm1 : 0 ≤ mn (l[i].f1.f6.length : Int) 131072 ∧ mn (l[i].f1.f6.length : Int) 131072 ≤ 131072 := by rw [hmb]; split <;> omega
    have hm2 : 0 ≤ mn (l[i].f2.f1.length : Int) 100 ∧ mn (l[i].f2.f1.length : Int) 100 ≤ 100 := by rw [hms]; split <;> omega
    unfold fairleadlaw18_vast.l0
    rw [if_pos (by omega), if_pos (by omega), hrd, wrap64_small (by omega) (by omega), wrap64_small (by omega) (by omega), wrap64_small (n := (i : Int) + 1) (by omega) (by omega)]
    by_cases c1 : n + mn (l[i].f1.f6.length : Int) 131072 > 32768
    · rw [if_pos c1]
      exact ⟨true, rfl, fun h => by cases h⟩
    · rw [if_neg c1]
      by_cases c2 : s + mn (l[i].f2.f1.length : Int) 100 > 12
      · rw [if_pos c2]
        exact ⟨true, rfl, fun h => by cases h⟩
      · rw [if_neg c2]
        obtain ⟨r, hr, hq⟩ := vast_loop l hl m (i + 1) (n + mn (l[i].f1.f6.length : Int) 131072) (s + mn (l[i].f2.f1.length : Int) 100) (by omega) (by omega) (by omega) (by omega) (by omega)
        refine ⟨r, by rw [show ((i : Int) + 1) = ((i + 1 : Nat) : Int) by omega]; exact hr, fun h => ?_⟩
        obtain ⟨h4, h5⟩ := hq h
        have e1 : mn (l[i].f1.f6.length : Int) 131072 = l[i].f1.f6.length := by rw [hmb]; rw [hmb] at c1; split <;> omega
        have e2 : mn (l[i].f2.f1.length : Int) 100 = l[i].f2.f1.length := by rw [hms]; rw [hms] at c2; split <;> omega
        rw [e1] at h4
        rw [e2] at h5
        rw [hd]
        simp only [opBytes, opSkips, List.map_cons, List.sum_cons] at *
        omega
theorem vast_any (A : Option Addr) (c : Nat) (l : List S38) (w : World) (h : Kd.C k38 w A l.length l) (hc : l.length ≤ c) :
    ∃ r, (r = false → l.length ≤ 80 ∧ opBytes l ≤ 32768 ∧ opSkips l ≤ 12) ∧ Calls Try.prog 26 #[.slice A l.length c] w (Same0 (.bool r) w) := by
  by_cases h80 : (l.length : Int) > 80
  · refine ⟨true, (fun h => by cases h), (fairleadlaw18_vast.calls 0 A c l true w h hc (by unfold fairleadlaw18_vast.f; rw [if_pos h80])).mono ?_⟩
    rintro e w' ⟨rfl, hb⟩
    exact ⟨rfl, Fr.of_below hb⟩
  · obtain ⟨r, hr, hq⟩ := vast_loop l (by omega) l.length 0 0 0 (by omega) (by omega) (by omega) (by omega) (by omega)
    refine ⟨r, fun h => ?_, (fairleadlaw18_vast.calls (l.length + 1) A c l r w h hc (by unfold fairleadlaw18_vast.f; rw [if_neg h80]; exact hr)).mono ?_⟩
    · have := hq h
      simp only [List.drop_zero] at this
      omega
    · rintro e w' ⟨rfl, hb⟩
      exact ⟨rfl, Fr.of_below hb⟩
theorem put_nil (_v : Value) (w : World) (d : Rs.Pc) (A : Option Addr) (n c : Nat) : Calls Try.prog 42 #[.pointer none, .agg #[.int .u32 d.tsn, .int .u16 d.stream, .int .u16 d.ssn, .bool d.un, .bool d.fi, .bool d.la, .slice A n c]] w (Same0 (.int .i64 2) w) := by
  go_enter Try.func42, Try.ntmps42
  go_wp2_with fail
  go_ret
  exact ⟨rfl, (by repeat (first | (with_reducible exact Fr.refl _ _) | (with_reducible refine Fr.drewN ?_ _) | (with_reducible refine Fr.drew ?_) | (with_reducible refine Fr.alloc ?_ _)))⟩
theorem c_one {w : World} {x : S38} {cs : List Value} (hK : k38.K w x cs) : Kd.C k38 (w.alloc (.cells cs.toArray 38)) (some ⟨w.heap.size, 0, none⟩) 1 [x] := by
  refine ⟨rfl, by omega, fun _ => ⟨_, rfl, fun j p hp => ?_⟩⟩
  have hj : j = 0 := by
    rcases Nat.eq_zero_or_pos j with h | h
    · exact h
    · rw [List.getElem?_eq_none (by simp; omega)] at hp
      cases hp
  subst hj
  injection hp with hp
  subst hp
  refine ⟨cs, k38.K_len hK, k38.K_below (below_alloc (Below.refl _ _) _) hK, fun i u hu => ?_⟩
  have hb := Blk.new w 38 cs.toArray
  rw [add_at, Nat.zero_mul, Nat.zero_add, Nat.zero_add, hb.cell, ← hu]
  exact List.getElem?_toArray
set_option maxRecDepth 100000 in
set_option maxHeartbeats 4000000 in
theorem nil_walk (x : S38) (cs : List Value) (w : World) (hK : k38.K w x cs) : Calls Try.prog 8 #[.agg cs.toArray] w (Same0 (.bool true) w) := by
  obtain ⟨A7, c7, A9, c9, rfl, h7, g7, h9, g9⟩ := k38_open hK
  have hC : Kd.C k38 ((w.alloc (.cells #[.int .i64 x.f0, .int .u32 x.f1.f0, .int .u16 x.f1.f1, .int .u16 x.f1.f2, .bool x.f1.f3, .bool x.f1.f4, .bool x.f1.f5, .slice A7 x.f1.f6.length c7, .int .u32 x.f2.f0, .slice A9 x.f2.f1.length c9] 38)).alloc (.cells #[.int .i64 x.f0, .int .u32 x.f1.f0, .int .u16 x.f1.f1, .int .u16 x.f1.f2, .bool x.f1.f3, .bool x.f1.f4, .bool x.f1.f5, .slice A7 x.f1.f6.length c7, .int .u32 x.f2.f0, .slice A9 x.f2.f1.length c9] 38)) (some ⟨w.heap.size + 1, 0, none⟩) 1 [x] := by
    have := c_one (k38.K_below (below_alloc (Below.refl _ w) (.cells #[.int .i64 x.f0, .int .u32 x.f1.f0, .int .u16 x.f1.f1, .int .u16 x.f1.f2, .bool x.f1.f3, .bool x.f1.f4, .bool x.f1.f5, .slice A7 x.f1.f6.length c7, .int .u32 x.f2.f0, .slice A9 x.f2.f1.length c9] 38)) hK)
    rwa [show (w.alloc (.cells #[.int .i64 x.f0, .int .u32 x.f1.f0, .int .u16 x.f1.f1, .int .u16 x.f1.f2, .bool x.f1.f3, .bool x.f1.f4, .bool x.f1.f5, .slice A7 x.f1.f6.length c7, .int .u32 x.f2.f0, .slice A9 x.f2.f1.length c9] 38)).heap.size = w.heap.size + 1 by simp] at this
  obtain ⟨r, _, hv⟩ := vast_any (some ⟨w.heap.size + 1, 0, none⟩) 1 [x] _ hC (Nat.le_refl _)
  have hsm := fun W => same_any ⟨0, false, []⟩ ⟨0, false, []⟩ none none 0 0 W (bin_nil W) (bin_nil W)
  rw [show sameMs ⟨0, false, []⟩ ⟨0, false, []⟩ = true from sameMs_self _] at hsm
  clear hC hK g7 g9 h7 h9
  cases r with
  | true =>
    go_enter Try.func8, Try.ntmps8
    go_wp2_with (first
      | (go_at_call 26; refine hv.mono ?_; rintro e w1 ⟨rfl, hf1⟩)
      | (go_at_call 27; refine (works_any _).mono ?_; rintro e w2 ⟨rfl, hf2⟩))
    go_ret
    exact ⟨rfl, (Fr.trans (S := fun _ => False) (by repeat (first | (with_reducible exact Fr.refl _ _) | (with_reducible refine Fr.drewN ?_ _) | (with_reducible refine Fr.drew ?_) | (with_reducible refine Fr.alloc ?_ _))) hf1).trans hf2⟩
  | false =>
    have hbx := Blk.new w 38 #[.int .i64 x.f0, .int .u32 x.f1.f0, .int .u16 x.f1.f1, .int .u16 x.f1.f2, .bool x.f1.f3, .bool x.f1.f4, .bool x.f1.f5, .slice A7 x.f1.f6.length c7, .int .u32 x.f2.f0, .slice A9 x.f2.f1.length c9]
    go_enter Try.func8, Try.ntmps8
    go_wp2_with (go_at_call 26; refine hv.mono ?_; rintro e w1 ⟨rfl, hf1⟩; have hF1 := Fr.trans (S := fun _ => False) (a := w) (by repeat (first | (with_reducible exact Fr.refl _ _) | (with_reducible refine Fr.drewN ?_ _) | (with_reducible refine Fr.drew ?_) | (with_reducible refine Fr.alloc ?_ _))) hf1; have hb1 := (hbx.alloc _).fr hf1 (fun h => h); have cb1 := hb1.cell; have lb1 := hb1.lt; have lb1s := hb1.lts)
    go_at_call 37
    refine (take_nil w1).mono ?_
    rintro e w2 ⟨rfl, hf2⟩
    have hF2 := hF1.trans hf2
    have hb2 := hb1.fr hf2 (fun h => h)
    have cb2 := hb2.cell
    have lb2 := hb2.lt
    have lb2s := hb2.lts
    clear cb1 lb1 lb1s
    unfold noMsg
    have hm2 := Blk.new w2 40 #[.int .u16 0, .bool false, .slice none 0 0]
    go_wp2_with (go_at_call 42; refine (put_nil .nilIface _ ⟨x.f1.f0, x.f1.f1, x.f1.f2, x.f1.f3, x.f1.f4, x.f1.f5, []⟩ _ _ _).mono ?_; rintro e w3 ⟨rfl, hf3⟩; have hF3 := (hF2.alloc _).trans hf3; have hb3 := (hb2.alloc _).fr hf3 (fun h => h); have cb3 := hb3.cell; have lb3 := hb3.lt; have lb3s := hb3.lts; have hm3 := hm2.fr hf3 (fun h => h); have cm3 := hm3.cell; have lm3 := hm3.lt; have lm3s := hm3.lts)
    go_wp2_with (go_at_call 46; refine (skipn_nil _ _ _ _ _).mono ?_; rintro e w4 ⟨rfl, hf4⟩; have hF4 := hF3.trans hf4; have hm4 := hm3.fr hf4 (fun h => h); have cm4 := hm4.cell; have lm4 := hm4.lt; have lm4s := hm4.lts)
    go_wp2_with (first
      | (go_at_call 33; refine (hsm _).mono ?_; rintro e w5 ⟨rfl, hf5⟩)
      | (go_at_call 34; refine (readyN_nil _).mono ?_; rintro e w6 ⟨rfl, hf6⟩)
      | (go_at_call 30; refine (held_nil _).mono ?_; rintro e w7 ⟨rfl, hf7⟩)
      | (go_at_call 27; refine (works_any _).mono ?_; rintro e w8 ⟨rfl, hf8⟩))
    go_ret
    exact ⟨rfl, (((hF4.trans hf5).trans hf6).trans hf7).trans hf8⟩
end Go.Proofs.Ytpkbckkminmdmaa
