/- The walk of SpansFew. -/
import Derived.Test.YtpkbckkminmdmaaSpL5
import Derived.Test.YtpkbckkminmdmaaWMore

namespace Go.Proofs.Ytpkbckkminmdmaa
open Go.RowKit Go.Proofs.YtpkbckkminmdmaaW.PrintWords Go.Proofs.YtpkbckkminmdmaaW.PrintMore Go.Proofs.YtpkbckkminmdmaaW.PrintLast
attribute [local go_sem] alloc_drewN setCell_drewN isMap_alloc isMap_drew isMap_drewN isMap_setCell cell_setMap frozen_setMap setMap_drew setMap_drewN size_setMap
attribute [local go_sem] max2_int min2_int max_two min_two
theorem own_cap {w : World} {base c : Nat} {A : Option Addr} {l : List (Nat × Nat)} (h : GRow w base A c l) : c ≤ maxLen := by
  rcases h.2 with ⟨hv, _⟩ | ⟨g, cap, cur, hv, _, _, _, h2, _⟩
  · injection hv with _ _ hc
    rw [hc]
    exact Nat.zero_le _
  · injection hv with _ _ hc
    rw [hc]
    exact h2
set_option maxRecDepth 100000 in
set_option maxHeartbeats 4000000 in
theorem spansFew_walk (b : Int) (A : Option Addr) (c : Nat) (l : List Int) (most : Int) (w : World) (hb : (Lit.int .u32 b).wf = true) (hC : Kd.C (Kd.int .u32) w A l.length l) (_hc : l.length ≤ c) (hq : ∀ x ∈ l, (Lit.int .u32 x).wf = true) (_hm : (Lit.int .i64 most).wf = true) :
    Calls Try.prog 13 #[.int .u32 b, .slice A l.length c, .int .i64 most] w (SameV (.bool true) w) := by
  have hbr := in_u32 hb
  have hr := fun x hx => in_u32 (hq x hx)
  clear hb hq
  by_cases hbig : 200 < l.length
  · have hd : decide ((200 : Int) < l.length) = true := decide_eq_true (by omega)
    go_enter Try.func13, Try.ntmps13
    go_wp2_with (go_at_call 47; refine (works4_any _).mono ?_; rintro e w2 ⟨rfl, hf2⟩)
    go_ret
    exact ⟨rfl, hf2⟩
  · have hd : decide ((200 : Int) < l.length) = false := decide_eq_false (by omega)
    have hok := Sp.fill_ok hbr hr
    have hfil := filled_any b A c l w hbr hC (by omega) hr
    have HFIL := Lib.hid hfil
    generalize Sp.fill b l = s at *
    have hgf : Sp.gaps s 4096 = Sp.runs s.ds := by
      unfold Sp.gaps
      rw [List.take_of_length_le]
      exact Nat.le_trans (Sp.runs_len hok.asc (fun d hd => (hok.rng d hd).1)) hok.len
    have HGF := Lib.hid hgf
    have hrl := Sp.runs_len hok.asc (fun d hd => (hok.rng d hd).1)
    have hrl2 : (Sp.runs s.ds).length ≤ 4096 := Nat.le_trans hrl hok.len
    clear hfil hgf hrl
    go_enter Try.func13, Try.ntmps13
    go_wp2_with fail
    go_at_call 48
    refine HFIL.out.mono ?_
    rintro e w1 ⟨g, mb, rfl, hS1, hf1, hg, hmb⟩
    go_wp2_with fail
    go_at_call 49
    refine (sgaps_all hS1 4096).mono ?_
    rintro e w2 ⟨B, cB, rfl, hG, hf2⟩
    rw [HGF.out] at hG ⊢
    have hS2 := hS1.fr0 hf2
    have HS2 := Lib.hid hS2
    go_wp2_with fail
    go_at_call 49
    refine (sgaps_all HS2.out most).mono ?_
    rintro e w3 ⟨D, cD, rfl, hG3, hf3⟩
    have h4 := hG.fr0 hf3
    obtain ⟨k, hk⟩ : ∃ k : Nat, (k : Int) = max 0 (min most ((Sp.runs s.ds).length : Int)) := ⟨(max 0 (min most ((Sp.runs s.ds).length : Int))).toNat, by omega⟩
    have hcap : (Sp.runs s.ds).length ≤ cB := own_le h4
    have hkl : k ≤ (Sp.runs s.ds).length := by omega
    have hft := few_take (Sp.runs s.ds) most k hk
    have hsm := same4_any D B cD cB (Sp.gaps s most) ((Sp.runs s.ds).take k) w3 hG3.rd (h4.rd.take k) (by unfold Sp.gaps; rw [List.length_take]; omega)
    rw [show Sp.gaps s most = (Sp.runs s.ds).take k from hft, decide_eq_true rfl, List.length_take, Nat.min_eq_left hkl] at hsm
    rw [show (Sp.gaps s most).length = k by rw [show Sp.gaps s most = (Sp.runs s.ds).take k from hft, List.length_take, Nat.min_eq_left hkl]]
    have HSM := Lib.hid hsm
    have HF := Lib.hid ((hf1.trans hf2).trans hf3)
    have HG0 := Lib.hid h4
    clear hG hG3 h4 hft hsm hf1 hf2 hf3 hS1 hS2
    have hk0 : (0 : Int) ≤ k := by omega
    have hk1 : (k : Int) ≤ cB := by omega
    have h63 : (cB : Int) ≤ 9223372036854775807 := by have := own_cap HG0.out; simp only [maxLen] at this; omega
    rcases Int.lt_or_le most 0 with hm0 | hm0
    · obtain rfl : k = 0 := by omega
      have e1 : ¬ ((Sp.runs s.ds).length : Int) < most := by omega
      have e2 : ¬ (0 : Int) < most := by omega
      clear hk
      go_wp2_with (first
        | (go_at_call 65; refine HSM.out.mono ?_; rintro e w5 ⟨rfl, hf5⟩)
        | (go_at_call 47; refine (works4_any _).mono ?_; rintro e w6 ⟨rfl, hf6⟩))
      go_ret
      exact ⟨rfl, (HF.out.trans hf5).trans hf6⟩
    · rcases Int.lt_or_le most ((Sp.runs s.ds).length : Int) with hm1 | hm1
      · obtain rfl : most = (k : Int) := by omega
        have e1 : ¬ ((Sp.runs s.ds).length : Int) < (k : Int) := by omega
        have e2 : ¬ (Sp.runs s.ds).length < k := by omega
        clear hk
        rcases Nat.eq_zero_or_pos k with h0 | h0
        · subst h0
          go_wp2_with (first
            | (go_at_call 65; refine HSM.out.mono ?_; rintro e w5 ⟨rfl, hf5⟩)
            | (go_at_call 47; refine (works4_any _).mono ?_; rintro e w6 ⟨rfl, hf6⟩))
          go_ret
          exact ⟨rfl, (HF.out.trans hf5).trans hf6⟩
        · have e3 : (0 : Int) < (k : Int) := by omega
          go_wp2_with (first
            | (go_at_call 65; refine HSM.out.mono ?_; rintro e w5 ⟨rfl, hf5⟩)
            | (go_at_call 47; refine (works4_any _).mono ?_; rintro e w6 ⟨rfl, hf6⟩))
          go_ret
          exact ⟨rfl, (HF.out.trans hf5).trans hf6⟩
      · obtain rfl : k = (Sp.runs s.ds).length := by omega
        clear hk
        by_cases hm2 : ((Sp.runs s.ds).length : Int) < most
        · rcases Nat.eq_zero_or_pos (Sp.runs s.ds).length with h0 | h0
          · rw [h0] at HSM hm2 ⊢
            go_wp2_with (first
              | (go_at_call 65; refine HSM.out.mono ?_; rintro e w5 ⟨rfl, hf5⟩)
              | (go_at_call 47; refine (works4_any _).mono ?_; rintro e w6 ⟨rfl, hf6⟩))
            go_ret
            exact ⟨rfl, (HF.out.trans hf5).trans hf6⟩
          · have e3 : (0 : Int) < ((Sp.runs s.ds).length : Int) := by omega
            go_wp2_with (first
              | (go_at_call 65; refine HSM.out.mono ?_; rintro e w5 ⟨rfl, hf5⟩)
              | (go_at_call 47; refine (works4_any _).mono ?_; rintro e w6 ⟨rfl, hf6⟩))
            go_ret
            exact ⟨rfl, (HF.out.trans hf5).trans hf6⟩
        · obtain rfl : most = ((Sp.runs s.ds).length : Int) := by omega
          rcases Nat.eq_zero_or_pos (Sp.runs s.ds).length with h0 | h0
          · rw [h0] at HSM hm2 ⊢
            go_wp2_with (first
              | (go_at_call 65; refine HSM.out.mono ?_; rintro e w5 ⟨rfl, hf5⟩)
              | (go_at_call 47; refine (works4_any _).mono ?_; rintro e w6 ⟨rfl, hf6⟩))
            go_ret
            exact ⟨rfl, (HF.out.trans hf5).trans hf6⟩
          · have e3 : (0 : Int) < ((Sp.runs s.ds).length : Int) := by omega
            go_wp2_with (first
              | (go_at_call 65; refine HSM.out.mono ?_; rintro e w5 ⟨rfl, hf5⟩)
              | (go_at_call 47; refine (works4_any _).mono ?_; rintro e w6 ⟨rfl, hf6⟩))
            go_ret
            exact ⟨rfl, (HF.out.trans hf5).trans hf6⟩
end Go.Proofs.Ytpkbckkminmdmaa
