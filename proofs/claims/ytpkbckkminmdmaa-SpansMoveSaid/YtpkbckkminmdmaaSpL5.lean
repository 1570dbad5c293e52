/- Helpers of the statements on spans: same; the walk of SpansFew. -/
import Derived.Test.YtpkbckkminmdmaaSpL3
import Derived.Test.YtpkbckkminmdmaaWEqStruct
namespace Go.Proofs.Ytpkbckkminmdmaa
open Go.RowKit Go.Proofs.YtpkbckkminmdmaaW.PrintWords
attribute [local go_sem] alloc_drewN setCell_drewN isMap_alloc isMap_drew isMap_drewN isMap_setCell cell_setMap frozen_setMap setMap_drew setMap_drewN size_setMap

/-- Gaps that are read. -/
def GRd (w : World) (A : Option Addr) (l : List (Nat × Nat)) : Prop := ∀ i p q : Nat, l[i]? = some (p, q) → ∃ gl, A = some ⟨gl, 0, none⟩ ∧ w.cell? ⟨gl, i * 2, none⟩ = some (.int .u16 p) ∧ w.cell? ⟨gl, i * 2 + 1, none⟩ = some (.int .u16 q) ∧ gl < w.heap.size
theorem GRow.rd {w : World} {base c : Nat} {A : Option Addr} {l : List (Nat × Nat)} (h : GRow w base A c l) : GRd w A l := fun i p q hi => by
  have hlt := (List.getElem?_eq_some_iff.1 hi).1
  obtain ⟨gl, cur, rfl, _, hb, _⟩ := h.ptr (by omega)
  obtain ⟨h1, h2⟩ := h.at_ hi
  exact ⟨gl, rfl, h1, h2, hb.lt⟩
theorem GRd.take {w : World} {A : Option Addr} {l : List (Nat × Nat)} (h : GRd w A l) (n : Nat) : GRd w A (l.take n) := fun i p q hi => h i p q (by
  rw [List.getElem?_take] at hi
  split at hi
  · exact hi
  · cases hi)
theorem GRd.fr0 {w w1 : World} {A : Option Addr} {l : List (Nat × Nat)} (h : GRd w A l) (hf : Fr (fun _ => False) w w1) : GRd w1 A l := fun i p q hi => by
  obtain ⟨gl, rfl, h1, h2, h3⟩ := h i p q hi
  exact ⟨gl, rfl, (hf.cell (a := ⟨gl, i * 2, none⟩) h3 id).trans h1, (hf.cell (a := ⟨gl, i * 2 + 1, none⟩) h3 id).trans h2, Nat.lt_of_lt_of_le h3 hf.size⟩
theorem eqGap (d : Nat) (w : World) (x0 y0 x1 y1 : Int) :
    (Op.equalIn (d + 2) 76 (.agg #[.int .u16 x0, .int .u16 x1]) (.agg #[.int .u16 y0, .int .u16 y1])).run Try.prog w = .ok (x0 == y0 && (x1 == y1)) w := by
  refine eqA_of Try.underlying76 (by kernel_rfl) ?_
  refine eqf_cons (by rfl) (by go_simp; rfl) (by go_simp; rfl) (by go_simp) ?_
  exact eqf_last (by rfl) (by go_simp; rfl) (by go_simp; rfl) (by go_simp)
attribute [local go_sem high] eqGap
theorem gaps_eq {x y : List (Nat × Nat)} (hl : x.length = y.length) (h : ∀ i, i < x.length → x[i]? = y[i]?) : x = y := by
  apply List.ext_getElem?
  intro i
  rcases Nat.lt_or_ge i x.length with hi | hi
  · exact h i hi
  · rw [List.getElem?_eq_none hi, List.getElem?_eq_none (by omega)]
set_option maxRecDepth 100000 in
set_option maxHeartbeats 2000000 in
theorem same4_any (A B : Option Addr) (ca cb : Nat) (x y : List (Nat × Nat)) (w : World) (hx : GRd w A x) (hy : GRd w B y) (hl : x.length ≤ 100000) :
    Calls Try.prog 65 #[.slice A x.length ca, .slice B y.length cb] w (SameV (.bool (decide (x = y))) w) := by
  have hu76 := Try.underlying76
  by_cases hxy : x.length = y.length
  · have hb : ((x.length : Int) != (y.length : Int)) = false := by rw [hxy]; simp
    have hb2 : (x.length == y.length) = true := by rw [hxy]; simp
    have HXY := Lib.hid hxy
    clear hxy
    go_enter Try.func65, Try.ntmps65
    go_wp2_with fail
    go_loopg [5] x.length (fun k v wr => ∃ i : Nat, v = .int .i64 i ∧ i ≤ x.length ∧ k = x.length - i ∧ Fr (fun _ => False) w wr ∧ ∀ j, j < i → x[j]? = y[j]?)
    case atStart => exact ⟨0, rfl, Nat.zero_le _, rfl, (by repeat (first | (with_reducible exact Fr.refl _ _) | (with_reducible refine Fr.drewN ?_ _) | (with_reducible refine Fr.drew ?_) | (with_reducible refine Fr.alloc ?_ _))), fun j hj => absurd hj (Nat.not_lt_zero _)⟩
    case round =>
      obtain ⟨i, rfl, hi, hk, hF, he⟩ := hrel
      have HK := Lib.hid hk
      have HE := Lib.hid he
      clear hk he
      by_cases hlt : i < x.length
      · have hd1 : decide ((i : Int) < x.length) = true := decide_eq_true (by omega)
        have hlt2 : i < y.length := by have := HXY.out; omega
        obtain ⟨⟨p, q⟩, hp⟩ : ∃ g, x[i]? = some g := ⟨_, List.getElem?_eq_getElem hlt⟩
        obtain ⟨⟨p2, q2⟩, hp2⟩ : ∃ g, y[i]? = some g := ⟨_, List.getElem?_eq_getElem hlt2⟩
        obtain ⟨gx, rfl, cx1, cx2, lx⟩ := (hx.fr0 hF) i p q hp
        obtain ⟨gy, rfl, cy1, cy2, ly⟩ := (hy.fr0 hF) i p2 q2 hp2
        have b1 : (0 : Int) ≤ (i : Int) := by omega
        have b2 : (i : Int) < x.length := by omega
        have b3 : (i : Int) < y.length := by omega
        have HP := Lib.hid hp
        have HP2 := Lib.hid hp2
        clear hp hp2
        by_cases hpp : p = p2 ∧ q = q2
        · obtain ⟨rfl, rfl⟩ := hpp
          go_wp2_with fail
          go_quiet (fail)
          go_wp2_with fail
          go_roundg (x.length - (i + 1))
          case measure => rw [HK.out]; omega
          case rel =>
            refine ⟨i + 1, by go_num, hlt, rfl, hF.trans (by repeat (first | (with_reducible exact Fr.refl _ _) | (with_reducible refine Fr.drewN ?_ _) | (with_reducible refine Fr.drew ?_) | (with_reducible refine Fr.alloc ?_ _))), fun j hj => ?_⟩
            rcases Nat.lt_or_ge j i with h | h
            · exact HE.out j h
            · obtain rfl : j = i := by omega
              rw [HP.out, HP2.out]
        · have hne : (!(((p : Int) == (p2 : Int)) && ((q : Int) == (q2 : Int)))) = true := by
            rw [Bool.not_eq_true', Bool.and_eq_false_iff]
            by_cases h1 : p = p2
            · exact .inr (beq_eq_false_iff_ne.2 (fun h => hpp ⟨h1, by omega⟩))
            · exact .inl (beq_eq_false_iff_ne.2 (by omega))
          have hno : decide (x = y) = false := decide_eq_false (fun h => by
            have h1 := HP.out
            rw [h, HP2.out] at h1
            injection h1 with h1
            injection h1 with h1 h2
            exact hpp ⟨h1.symm, h2.symm⟩)
          have HNO := Lib.hid hno
          clear hno hpp
          go_wp2_with fail
          go_quiet (fail)
          go_wp2_with fail
          go_ret
          exact ⟨by rw [HNO.out]; rfl, hF.trans (by repeat (first | (with_reducible exact Fr.refl _ _) | (with_reducible refine Fr.drewN ?_ _) | (with_reducible refine Fr.drew ?_) | (with_reducible refine Fr.alloc ?_ _)))⟩
      · have hd1 : decide ((i : Int) < x.length) = false := decide_eq_false (by omega)
        have hyes : decide (x = y) = true := decide_eq_true (gaps_eq HXY.out (fun j hj => HE.out j (by omega)))
        have HY := Lib.hid hyes
        clear hyes
        go_wp2_with fail
        go_ret
        exact ⟨by rw [HY.out]; rfl, hF⟩
  · have hb : ((x.length : Int) != (y.length : Int)) = true := by simp only [bne_iff_ne, ne_eq]; omega
    have hb2 : (x.length == y.length) = false := by rw [beq_eq_false_iff_ne]; exact hxy
    have hno : decide (x = y) = false := decide_eq_false (fun h => hxy (by rw [h]))
    rw [hno]
    clear hno hxy
    go_enter Try.func65, Try.ntmps65
    go_wp2_with fail
    go_ret
    exact ⟨rfl, (by repeat (first | (with_reducible exact Fr.refl _ _) | (with_reducible refine Fr.drewN ?_ _) | (with_reducible refine Fr.drew ?_) | (with_reducible refine Fr.alloc ?_ _)))⟩
theorem few_take (R : List (Nat × Nat)) (most : Int) (k : Nat) (hk : (k : Int) = max 0 (min most (R.length : Int))) : R.take most.toNat = R.take k := by
  rcases Int.le_total most (R.length : Int) with h | h
  · congr 1
    omega
  · rw [List.take_of_length_le (by omega), List.take_of_length_le (by omega)]
end Go.Proofs.Ytpkbckkminmdmaa
