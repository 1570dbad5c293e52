/- The walk of SpansSettle. -/
import Derived.Test.YtpkbckkminmdmaaSpL3
import Derived.Test.YtpkbckkminmdmaaTmPure1
namespace Go.Proofs.Ytpkbckkminmdmaa
open Go.RowKit Go.Proofs.YtpkbckkminmdmaaW.PrintWords
attribute [local go_sem] alloc_drewN setCell_drewN isMap_alloc isMap_drew isMap_drewN isMap_setCell cell_setMap frozen_setMap setMap_drew setMap_drewN size_setMap

/-- A step on a set that was made since: what lay ahead stays. -/
theorem foot_new {w w1 w2 : World} {g mb : Nat} (hf : Fr (fun _ => False) w w1) (h2 : Fr (FootS g mb) w1 w2) (hg : w.heap.size ≤ g) (hmb : w.heap.size ≤ mb) : Fr (fun _ => False) w w2 :=
  hf.then h2 fun k hk => by rcases hk with rfl | rfl <;> exact .inr (by assumption)
theorem settle_twice {s : Sp.St} (h : s.Ok) : Sp.settle (Sp.movedTo s (Sp.lead 0 s.ds)) = (Sp.movedTo s (Sp.lead 0 s.ds), 0) := by
  have ho := h.moved (Sp.lead 0 s.ds)
  rw [Sp.settle_eq ho, Sp.lead_moved h, Sp.moved_zero ho]
theorem has_beyond {s : Sp.St} (h : s.Ok) : Sp.has (Sp.movedTo s (Sp.lead 0 s.ds)) (((Sp.movedTo s (Sp.lead 0 s.ds)).base + 1) % 4294967296) = false := by
  rw [Sp.has_next, decide_eq_false_iff_not]
  intro hx
  have := (Tm.mem_moved.1 hx).2
  rw [Nat.add_comm] at this
  exact Sp.lead_next h this
set_option maxRecDepth 100000 in
set_option maxHeartbeats 8000000 in
theorem spansSettle_walk (b : Int) (A : Option Addr) (c : Nat) (l : List Int) (w : World) (hb : (Lit.int .u32 b).wf = true) (hC : Kd.C (Kd.int .u32) w A l.length l) (_hc : l.length ≤ c) (hq : ∀ x ∈ l, (Lit.int .u32 x).wf = true) :
    Calls Try.prog 10 #[.int .u32 b, .slice A l.length c] w (SameV (.bool true) w) := by
  have hbr := in_u32 hb
  have hr := fun x hx => in_u32 (hq x hx)
  clear hb hq
  by_cases hbig : 200 < l.length
  · have hd : decide ((200 : Int) < l.length) = true := decide_eq_true (by omega)
    go_enter Try.func10, Try.ntmps10
    go_wp2_with (go_at_call 47; refine (works4_any _).mono ?_; rintro e w2 ⟨rfl, hf2⟩)
    go_ret
    exact ⟨rfl, hf2⟩
  · have hd : decide ((200 : Int) < l.length) = false := decide_eq_false (by omega)
    have hok := Sp.fill_ok hbr hr
    have hbase := Sp.fill_base hbr hr
    have hmem := Sp.fill_mem hbr hr
    have hwi := Sp.within_mem hbr hr
    have hfil := filled_any b A c l w hbr hC (by omega) hr
    have HFIL := Lib.hid hfil
    have HMEM := Lib.hid hmem
    have HWI := Lib.hid hwi
    generalize Sp.fill b l = s at *
    obtain ⟨b0, b1⟩ := hbr
    have hlb := Sp.lead_bound hok
    have hlen := hok.len
    have hml := Sp.moved_len hok
    have hst := Sp.settle_eq hok
    have hst2 := settle_twice hok
    have hhb := has_beyond hok
    have hln := Sp.lead_next hok
    have hlm := fun k => Sp.lead_mem (s := s) (k := k)
    have hhm := fun k => Sp.has_moved hok (n := Sp.lead 0 s.ds) (k := k) (by omega)
    have hmb1 : (Sp.movedTo s (Sp.lead 0 s.ds)).base = (b + (Sp.lead 0 s.ds : Nat)) % 4294967296 := by
      unfold Sp.movedTo Sp.key
      dsimp only
      rw [hbase]
    have hkey : ∀ k : Nat, Sp.key s.base k = (b + (k : Int)) % 4294967296 := fun k => by unfold Sp.key; rw [hbase]
    generalize Sp.lead 0 s.ds = n at *
    have HBASE := Lib.hid hbase
    have HST := Lib.hid hst
    have HST2 := Lib.hid hst2
    have HHB := Lib.hid hhb
    have HLN := Lib.hid hln
    have HLM := Lib.hid hlm
    have HHM := Lib.hid hhm
    have HMB := Lib.hid hmb1
    have HKEY := Lib.hid hkey
    generalize hs1 : Sp.movedTo s n = s1 at *
    have HML := Lib.hid hml
    clear hfil hmem hwi hbase hst hst2 hhb hln hlm hhm hmb1 hkey hs1 hml
    go_enter Try.func10, Try.ntmps10
    go_wp2_with fail
    go_at_call 48
    refine HFIL.out.mono ?_
    rintro e w1 ⟨g, mb, rfl, hS1, hf1, hg, hmb⟩
    go_wp2_with fail
    go_at_call 53
    refine (scount_any hS1).mono ?_
    rintro e w' ⟨rfl, rfl⟩
    have hset := ssettle_any hS1
    rw [HST.out] at hset
    have HSET := Lib.hid hset
    clear hset hS1
    go_wp2_with fail
    go_at_call 54
    refine HSET.out.mono ?_
    rintro e w2 ⟨rfl, hS2, hf2⟩
    dsimp only at hS2 ⊢
    have hF2 := foot_new hf1 hf2 hg hmb
    have HS2 := Lib.hid hS2
    have HF2 := Lib.hid hF2
    clear hS2 hf2 hF2 hf1
    go_wp2_with fail
    go_loopg [8] n (fun kk v wr => ∃ k : Nat, v = .int .i64 k ∧ 1 ≤ k ∧ k ≤ n + 1 ∧ kk = n + 1 - k ∧ Fr (fun _ => False) w2 wr)
    case atStart => exact ⟨1, rfl, Nat.le_refl _, by omega, by omega, Fr.refl _ _⟩
    case round =>
      obtain ⟨k, rfl, hk1, hk2, hkk, hF⟩ := hrel
      have HKK := Lib.hid hkk
      clear hkk
      by_cases hkn : k ≤ n
      · have d1 : decide (k ≤ n) = true := decide_eq_true hkn
        have hin := HLM.out k hk1 hkn
        have hwn := within_any A c l (k : Int) wr ((U32s.fr0 hC HF2.out).fr0 hF) (by omega)
        rw [HWI.out k, decide_eq_true hin] at hwn
        have hhs := shas_any (HS2.out.fr0 hF) ((b + (k : Int)) % 4294967296) (by omega)
        have hh := HHM.out k (by omega)
        rw [HKEY.out, decide_eq_false (by omega)] at hh
        rw [hh] at hhs
        have HWN := Lib.hid hwn
        have HHS := Lib.hid hhs
        clear hwn hhs hh hin
        go_wp2_with (first
          | (go_at_call 50; refine HWN.out.mono ?_; rintro e w' ⟨rfl, rfl⟩)
          | (go_at_call 51; refine HHS.out.mono ?_; rintro e w5 ⟨rfl, hf5⟩))
        go_roundg (n + 1 - (k + 1))
        case measure => rw [HKK.out]; omega
        case rel => exact ⟨k + 1, by go_num, by omega, by omega, rfl, hF.trans hf5⟩
      · have d1 : decide (k ≤ n) = false := decide_eq_false hkn
        obtain rfl : k = n + 1 := by omega
        have hwn := within_any A c l ((n : Int) + 1) wr ((U32s.fr0 hC HF2.out).fr0 hF) (by omega)
        have hw1 := HWI.out (n + 1)
        rw [decide_eq_false HLN.out, show ((n + 1 : Nat) : Int) = (n : Int) + 1 by omega] at hw1
        rw [hw1] at hwn
        have hba := sbase_any (HS2.out.fr0 hF)
        rw [HMB.out] at hba
        have hcn := scount_any (HS2.out.fr0 hF)
        rw [show ((s1.ds.length : Nat) : Int) = (s.ds.length : Int) - (n : Int) by have := HML.out; omega] at hcn
        have hse := ssettle_any (HS2.out.fr0 hF)
        rw [HST2.out] at hse
        have HWN := Lib.hid hwn
        have HBA := Lib.hid hba
        have HCN := Lib.hid hcn
        have HSE := Lib.hid hse
        clear hwn hw1 hba hcn hse
        go_wp2_with (first
          | (go_at_call 50; refine HWN.out.mono ?_; rintro e w' ⟨rfl, rfl⟩)
          | (go_at_call 55; refine HBA.out.mono ?_; rintro e w' ⟨rfl, rfl⟩)
          | (go_at_call 53; refine HCN.out.mono ?_; rintro e w' ⟨rfl, rfl⟩)
          | (go_at_call 54; refine HSE.out.mono ?_; rintro e w3 ⟨rfl, hS3, hf3⟩))
        have hF3 := foot_new (HF2.out.trans hF) hf3 hg hmb
        have HS3 := Lib.hid hS3
        have HF3 := Lib.hid hF3
        clear hS3 hF3 hf3
        go_loopg [9] l.length (fun kk v wr => ∃ j : Nat, v = .int .i64 j ∧ j ≤ l.length ∧ kk = l.length - j ∧ Fr (fun _ => False) w3 wr)
        case atStart => exact ⟨0, rfl, Nat.zero_le _, rfl, Fr.refl _ _⟩
        case round =>
          obtain ⟨j, rfl, hj, hkk, hF4⟩ := hrel
          have HKK := Lib.hid hkk
          clear hkk
          by_cases hlt : j < l.length
          · have hd2 : decide ((j : Int) < l.length) = true := decide_eq_true (by omega)
            obtain ⟨ad, rfl, hcl, hbl⟩ := u32_at ((U32s.fr0 hC HF3.out).fr0 hF4) j hlt
            have hy := hr _ (List.getElem_mem hlt)
            have hym : l[j] ∈ l := List.getElem_mem hlt
            generalize l[j] = y at *
            obtain ⟨y0, y1⟩ := hy
            by_cases hy1 : (n : Int) < y
            · by_cases hy2 : y ≤ 4096
              · have hhs := shas_any (HS3.out.fr0 hF4) ((b + y) % 4294967296) (by omega)
                have hh := HHM.out y.toNat (by omega)
                rw [HKEY.out, show ((y.toNat : Nat) : Int) = y by omega, decide_eq_true ⟨by omega, (HMEM.out y.toNat).2 ⟨by rw [show ((y.toNat : Nat) : Int) = y by omega]; exact hym, by omega, by omega⟩⟩] at hh
                rw [hh] at hhs
                have HHS := Lib.hid hhs
                clear hhs hh hym
                go_wp2_with (go_at_call 51; refine HHS.out.mono ?_; rintro e w5 ⟨rfl, hf5⟩)
                go_roundg (l.length - (j + 1))
                case measure => rw [HKK.out]; omega
                case rel => exact ⟨j + 1, by go_num, by omega, rfl, hF4.trans hf5⟩
              · clear hym
                go_wp2_with fail
                go_roundg (l.length - (j + 1))
                case measure => rw [HKK.out]; omega
                case rel => exact ⟨j + 1, by go_num, by omega, rfl, hF4⟩
            · clear hym
              go_wp2_with fail
              go_roundg (l.length - (j + 1))
              case measure => rw [HKK.out]; omega
              case rel => exact ⟨j + 1, by go_num, by omega, rfl, hF4⟩
          · have hd2 : decide ((j : Int) < l.length) = false := decide_eq_false (by omega)
            have hba := sbase_any (HS3.out.fr0 hF4)
            have hhs := shas_any (HS3.out.fr0 hF4) ((s1.base + 1) % 4294967296) (by omega)
            rw [HHB.out] at hhs
            have HBA := Lib.hid hba
            have HHS := Lib.hid hhs
            clear hba hhs
            go_wp2_with (first
              | (go_at_call 55; refine HBA.out.mono ?_; rintro e w' ⟨rfl, rfl⟩)
              | (go_at_call 51; refine HHS.out.mono ?_; rintro e w5 ⟨rfl, hf5⟩)
              | (go_at_call 47; refine (works4_any _).mono ?_; rintro e w6 ⟨rfl, hf6⟩))
            go_ret
            exact ⟨rfl, ((HF3.out.trans hF4).trans hf5).trans hf6⟩
end Go.Proofs.Ytpkbckkminmdmaa
