/- Helpers of the statements on spans: filled, within, gaps that are read, same. -/
import Derived.Test.YtpkbckkminmdmaaSpL1
import Derived.Deep.QuietTactic
import Derived.BigQuiet
namespace Go.Proofs.Ytpkbckkminmdmaa
open Go.RowKit Go.Proofs.YtpkbckkminmdmaaW.PrintWords
attribute [local go_sem] alloc_drewN setCell_drewN isMap_alloc isMap_drew isMap_drewN isMap_setCell cell_setMap frozen_setMap setMap_drew setMap_drewN size_setMap

/-! ### a row of numbers that is read -/
def U32s (w : World) (A : Option Addr) (l : List Int) : Prop := Kd.C (Kd.int .u32) w A l.length l
theorem u32_at {w : World} {A : Option Addr} {l : List Int} (h : U32s w A l) (i : Nat) (hi : i < l.length) : ∃ ad, A = some ad ∧ w.cell? (ad.add i) = some (.int .u32 l[i]) ∧ ad.block < w.heap.size := by
  obtain ⟨_, _, h3⟩ := h
  obtain ⟨ad, rfl, hc⟩ := h3 (by omega)
  obtain ⟨cs, h4, hK, h5⟩ := hc i l[i] (List.getElem?_eq_getElem hi)
  have h6 := h5 0 (.int .u32 l[i]) (by
    have : cs = [.int .u32 l[i]] := hK
    rw [this]; rfl)
  rw [Nat.add_zero, show (Kd.int IntKind.u32).sz = 1 from rfl, Nat.mul_one] at h6
  refine ⟨ad, rfl, h6, ?_⟩
  have := World.block_lt_of_cell? w _ h6
  unfold Addr.add at this
  split at this <;> exact this
theorem U32s.below {w w1 : World} {A : Option Addr} {l : List Int} (h : U32s w A l) (hb : Below w.heap.size w w1) : U32s w1 A l := Kd.C_below h hb
theorem U32s.fr0 {w w1 : World} {A : Option Addr} {l : List Int} (h : U32s w A l) (hf : Fr (fun _ => False) w w1) : U32s w1 A l := h.below (hf.below (Nat.le_refl _) (fun _ h => h.elim))
set_option maxRecDepth 100000 in
theorem within_any (A : Option Addr) (c : Nat) (l : List Int) (x : Int) (w : World) (h : U32s w A l) (hl : l.length ≤ 100000) : Calls Try.prog 50 #[.slice A l.length c, .int .u32 x] w fun e w' => e = .returned (.bool (Sp.within l x)) ∧ w = w' := by
  go_enter Try.func50, Try.ntmps50
  go_wp2_with fail
  go_loopg [5] l.length (fun k v wr => ∃ i : Nat, v = .int .i64 i ∧ i ≤ l.length ∧ k = l.length - i ∧ wr = w ∧ Sp.within (l.take i) x = false)
  case atStart => exact ⟨0, rfl, Nat.zero_le _, rfl, rfl, by simp [Sp.within]⟩
  case round =>
    obtain ⟨i, rfl, hi, hk, rfl, hb⟩ := hrel
    have HK := Lib.hid hk
    have HB := Lib.hid hb
    clear hk hb
    by_cases hlt : i < l.length
    · have hd1 : decide ((i : Int) < l.length) = true := decide_eq_true (by omega)
      obtain ⟨ad, rfl, hc, hlt2⟩ := u32_at h i hlt
      have htk : l.take (i + 1) = l.take i ++ [l[i]] := List.take_succ_eq_append_getElem hlt
      have hmem : l[i] ∈ l := List.getElem_mem hlt
      have HT := Lib.hid htk
      have HM := Lib.hid hmem
      generalize l[i] = y at *
      clear htk hmem
      by_cases hy : y = x
      · by_cases hx1 : 1 ≤ x
        · by_cases hx2 : x ≤ 4096
          · have b1 : (y == x) = true := beq_iff_eq.2 hy
            have hw : Sp.within l x = true := by
              unfold Sp.within
              rw [decide_eq_true (hy ▸ HM.out), decide_eq_true hx1, decide_eq_true hx2]
              rfl
            have HW := Lib.hid hw
            clear hw hy
            go_wp2_with fail
            go_ret
            exact ⟨by rw [HW.out]; rfl, rfl⟩
          · have b1 : (y == x) = true := beq_iff_eq.2 hy
            have hw : Sp.within (l.take (i + 1)) x = false := by
              unfold Sp.within
              rw [decide_eq_false hx2, Bool.and_false, Bool.and_false]
            have HW := Lib.hid hw
            clear hw hy
            go_wp2_with fail
            go_roundg (l.length - (i + 1))
            case measure => rw [HK.out]; omega
            case rel => exact ⟨i + 1, by go_num, hlt, rfl, rfl, HW.out⟩
        · have b1 : (y == x) = true := beq_iff_eq.2 hy
          have hw : Sp.within (l.take (i + 1)) x = false := by
            unfold Sp.within
            rw [decide_eq_false hx1, Bool.false_and, Bool.and_false]
          have HW := Lib.hid hw
          clear hw hy
          go_wp2_with fail
          go_roundg (l.length - (i + 1))
          case measure => rw [HK.out]; omega
          case rel => exact ⟨i + 1, by go_num, hlt, rfl, rfl, HW.out⟩
      · have b1 : (y == x) = false := beq_eq_false_iff_ne.2 hy
        have hw : Sp.within (l.take (i + 1)) x = false := by
          have h0 := HB.out
          unfold Sp.within at h0 ⊢
          have : decide (x ∈ l.take (i + 1)) = decide (x ∈ l.take i) := by
            rw [HT.out]
            refine decide_eq_decide.2 ?_
            rw [List.mem_append, List.mem_singleton]
            exact ⟨fun h => h.elim id (fun h => absurd h.symm hy), .inl⟩
          rw [this]
          exact h0
        have HW := Lib.hid hw
        clear hw hy
        go_wp2_with fail
        go_roundg (l.length - (i + 1))
        case measure => rw [HK.out]; omega
        case rel => exact ⟨i + 1, by go_num, hlt, rfl, rfl, HW.out⟩
    · have hd1 : decide ((i : Int) < l.length) = false := decide_eq_false (by omega)
      have hw : Sp.within l x = false := by
        have := HB.out
        rwa [List.take_of_length_le (by omega)] at this
      have HW := Lib.hid hw
      clear hw
      go_wp2_with fail
      go_ret
      exact ⟨by rw [HW.out]; rfl, rfl⟩
def FilledP (s : Sp.St) (w : World) (e : Ending) (w' : World) : Prop := ∃ g mb, e = .returned (.pointer (some ⟨g, 0, none⟩)) ∧ SpAt w' g mb s ∧ Fr (fun _ => False) w w' ∧ w.heap.size ≤ g ∧ w.heap.size ≤ mb
set_option maxRecDepth 100000 in
theorem filled_any (b : Int) (A : Option Addr) (c : Nat) (l : List Int) (w : World) (hb : 0 ≤ b ∧ b < 4294967296) (h : U32s w A l) (hl : l.length ≤ 100000) (hr : ∀ x ∈ l, 0 ≤ x ∧ x < 4294967296) : Calls Try.prog 48 #[.int .u32 b, .slice A l.length c] w (FilledP (Sp.fill b l) w) := by
  go_enter Try.func48, Try.ntmps48
  go_wp2_with (go_at_call 66; refine (snew_any b _ hb).mono ?_; rintro e w1 ⟨g, mb, rfl, h1, hf1, hg, hmb⟩)
  go_loopg [6] l.length (fun k v wr => ∃ i : Nat, v = .int .i64 i ∧ i ≤ l.length ∧ k = l.length - i ∧ SpAt wr g mb (Sp.fill b (l.take i)) ∧ Fr (fun _ => False) w wr)
  case atStart => exact ⟨0, rfl, Nat.zero_le _, rfl, h1, hf1⟩
  case round =>
    obtain ⟨i, rfl, hi, hk, hS, hF⟩ := hrel
    have HK := Lib.hid hk
    clear hk
    by_cases hlt : i < l.length
    · have hd1 : decide ((i : Int) < l.length) = true := decide_eq_true (by omega)
      obtain ⟨ad, rfl, hc, hlt2⟩ := u32_at (h.fr0 hF) i hlt
      have htk : l.take (i + 1) = l.take i ++ [l[i]] := List.take_succ_eq_append_getElem hlt
      have hy := hr _ (List.getElem_mem hlt)
      have HT := Lib.hid htk
      generalize l[i] = y at *
      obtain ⟨y0, y1⟩ := hy
      have A1 := sadd_any hS ((b + y) % 4294967296) (by omega)
      have HA := Lib.hid A1
      clear htk A1
      go_wp2_with (go_at_call 67; refine HA.out.mono ?_; rintro e w2 ⟨rfl, h2, hf2⟩)
      go_roundg (l.length - (i + 1))
      case measure => rw [HK.out]; omega
      case rel =>
        refine ⟨i + 1, by go_num, hlt, rfl, ?_, hF.then hf2 (fun k hk => by rcases hk with rfl | rfl <;> exact .inr (by assumption))⟩
        have e : Sp.fill b (l.take (i + 1)) = (Sp.add (Sp.fill b (l.take i)) ((b + y) % 4294967296)).1 := by
          rw [HT.out]
          exact Sp.addAll_snoc _ _ _ _
        rw [e]
        exact h2
    · have hd1 : decide ((i : Int) < l.length) = false := decide_eq_false (by omega)
      rw [List.take_of_length_le (by omega)] at hS
      go_wp2_with fail
      go_ret
      exact ⟨g, mb, rfl, hS, hF, hg, hmb⟩
end Go.Proofs.Ytpkbckkminmdmaa
