/- Contract of (*Reasm).Skip. -/
import Derived.Test.YtpkbckkminmdmaaRsW10
namespace Go.Proofs.Ytpkbckkminmdmaa
open Go.RowKit Go.Proofs.YtpkbckkminmdmaaW.PrintWords
attribute [local go_sem] alloc_drewN setCell_drewN isMap_alloc isMap_drew isMap_drewN isMap_setCell cell_setMap frozen_setMap setMap_drew setMap_drewN size_setMap field_piece0 field_data1 field_data3 field_data6

def skCells (sk : List (Int × Int)) : List Value := sk.flatMap fun x => [.int .u16 x.1, .int .u16 x.2]
theorem sk_get : ∀ (sk : List (Int × Int)) (m : Nat) (x : Int × Int), sk[m]? = some x → (skCells sk)[m * 2]? = some (.int .u16 x.1) ∧ (skCells sk)[m * 2 + 1]? = some (.int .u16 x.2)
  | [], m, x, h => by cases h
  | e :: l, 0, x, h => by
    injection h with h
    subst h
    exact ⟨rfl, rfl⟩
  | e :: l, m + 1, x, h => by
    obtain ⟨h1, h2⟩ := sk_get l m x h
    unfold skCells at h1 h2 ⊢
    rw [List.flatMap_cons, List.getElem?_append_right (by show 2 ≤ _; omega), List.getElem?_append_right (by show 2 ≤ _; omega)]
    rw [show (m + 1) * 2 - [Value.int IntKind.u16 e.1, Value.int IntKind.u16 e.2].length = m * 2 by show (m + 1) * 2 - 2 = _; omega, show (m + 1) * 2 + 1 - [Value.int IntKind.u16 e.1, Value.int IntKind.u16 e.2].length = m * 2 + 1 by show (m + 1) * 2 + 1 - 2 = _; omega]
    exact ⟨h1, h2⟩
/-- A row of skips lies in memory, apart from some blocks. -/
def SkIn (w : World) (A : Option Addr) (sk : List (Int × Int)) (S : Nat → Prop) : Prop :=
  0 < sk.length → ∃ b o, A = some ⟨b, o, none⟩ ∧ b < w.heap.size ∧ ¬ S b ∧ ∀ j u, (skCells sk)[j]? = some u → w.cell? ⟨b, o + j, none⟩ = some u
theorem SkIn.fr {w w' : World} {A : Option Addr} {sk : List (Int × Int)} {S T : Nat → Prop} (h : SkIn w A sk S) (hf : Fr T w w') (hT : ∀ k, k < w.heap.size → T k → S k) : SkIn w' A sk S := fun hp => by
  obtain ⟨b, o, h1, h2, h3, h4⟩ := h hp
  exact ⟨b, o, h1, Nat.lt_of_lt_of_le h2 hf.size, h3, fun j u hu => (hf.cell h2 (fun ht => h3 (hT b h2 ht))).trans (h4 j u hu)⟩
theorem held_parts_le (s : Rs.St) (cum : Int) : Rs.held { s with L := Rs.parts s.L cum } ≤ Rs.held s := by
  rw [Rs.held_eq, Rs.held_eq]
  have h := Rs.bytesOf_split (fun p => (p.tsn != cum && !Rs.less32 p.tsn cum) || (Rs.whole s.L p).isSome) s.L
  have h2 := Rs.bytesOf_nonneg (s.L.filter fun x => !((x.tsn != cum && !Rs.less32 x.tsn cum) || (Rs.whole s.L x).isSome))
  show Rs.bytesOf (s.L.filter _) + Rs.bytesOfM s.row ≤ _
  omega
def SkipPost (g : Nat) (s : Gs) (cum : Int) (sk : List (Int × Int)) (w : World) (e : Ending) (w' : World) : Prop :=
  e = .returned (.int .i64 (Rs.skip s.abs cum sk).2) ∧ ∃ s', Upd g s s' (Rs.held s'.abs) w w' ∧ s'.abs = (Rs.skip s.abs cum sk).1 ∧ Same s s' ∧ Lim s' ∧ Rs.held s'.abs ≤ Rs.held s.abs
theorem skipn_nil (A : Option Addr) (n c : Nat) (cum : Int) (w : World) : Calls Try.prog 46 #[.pointer none, .agg #[.int .u32 cum, .slice A n c]] w (Same0 (.int .i64 2) w) := by
  go_enter Try.func46, Try.ntmps46
  go_wp2_with fail
  go_ret
  exact ⟨rfl, (by repeat (first | (with_reducible exact Fr.refl _ _) | (with_reducible refine Fr.drewN ?_ _) | (with_reducible refine Fr.drew ?_) | (with_reducible refine Fr.alloc ?_ _)))⟩
set_option maxRecDepth 100000 in
set_option maxHeartbeats 8000000 in
theorem skipn_any (g : Nat) (s : Gs) (cum : Int) (sk : List (Int × Int)) (A : Option Addr) (c : Nat) (w : World) (hr : RsAt w g s (Rs.held s.abs)) (hlim : Lim s) (hh : Rs.held s.abs < 1000000000)
    (hsk : ∀ x ∈ sk, 0 ≤ x.1 ∧ x.1 < 65536 ∧ 0 ≤ x.2 ∧ x.2 < 65536) (hlen : sk.length ≤ 1000) (hin : SkIn w A sk (Foot g s)) :
    Calls Try.prog 46 #[.pointer (some ⟨g, 0, none⟩), .agg #[.int .u32 cum, .slice A sk.length c]] w (SkipPost g s cum sk w) := by
  have hgl := hr.blk.lt
  have hn16 := hr.ok.nxl
  have hfl : ∀ k, Foot g s k → k < w.heap.size := fun k hk => hr.foot_lt hk
  have hbn : ¬ Foot g s w.heap.size := fun h => absurd (hfl _ h) (Nat.lt_irrefl _)
  have hbx0 := Blk.new w 36 #[.int .u32 cum, .slice A sk.length c]
  have hR0 : RsAt (w.alloc (.cells #[.int .u32 cum, .slice A sk.length c] 36)) g s (Rs.held s.abs) := hr.fr0 (by repeat (first | (with_reducible exact Fr.refl _ _) | (with_reducible refine Fr.drewN ?_ _) | (with_reducible refine Fr.drew ?_) | (with_reducible refine Fr.alloc ?_ _)))
  have hin0 : SkIn (w.alloc (.cells #[.int .u32 cum, .slice A sk.length c] 36)) A sk (Foot g s) := hin.fr (T := fun _ => False) (by repeat (first | (with_reducible exact Fr.refl _ _) | (with_reducible refine Fr.drewN ?_ _) | (with_reducible refine Fr.drew ?_) | (with_reducible refine Fr.alloc ?_ _))) (fun _ _ h => h.elim)
  go_enter Try.func46, Try.ntmps46
  go_wp2_with fail
  go_loopg [14] sk.length (fun k v wr => ∃ m : Nat, v = .int .i64 m ∧ m ≤ sk.length ∧ k = sk.length - m ∧ Fr (fun _ => False) (w.alloc (.cells #[.int .u32 cum, .slice A sk.length c] 36)) wr ∧ ∀ x ∈ sk.take m, x.1.toNat < s.next.length)
  case atStart => exact ⟨0, rfl, Nat.zero_le _, rfl, Fr.refl _ _, by simp⟩
  case round =>
    obtain ⟨m, rfl, hm1, hk, hF, hall⟩ := hrel
    have HK := Lib.hid hk
    have HALL := Lib.hid hall
    clear hk hall
    have hR1 := hR0.fr0 hF
    have g1l := hR1.blk.lt
    have g1ls := hR1.blk.lts
    have c1 := hR1.blk.cell
    unfold gcells at c1
    have hbx := hbx0.fr hF (fun h => h)
    have bx := hbx.cell
    have bxl := hbx.lt
    have bxls := hbx.lts
    by_cases hlt : m < sk.length
    · have hd1 : decide ((m : Int) < sk.length) = true := decide_eq_true (by omega)
      obtain ⟨x, hx⟩ : ∃ x, sk[m]? = some x := ⟨_, List.getElem?_eq_getElem hlt⟩
      obtain ⟨b, o, rfl, hb1, hb2, hb3⟩ := (hin0.fr hF (fun _ _ h => h.elim)) (by omega)
      have c0 : wr.cell? ⟨b, o + m * 2, none⟩ = some (.int .u16 x.1) := hb3 _ _ (sk_get sk m x hx).1
      have c0' : wr.cell? ⟨b, o + m * 2 + 1, none⟩ = some (.int .u16 x.2) := hb3 _ _ (sk_get sk m x hx).2
      have HX := Lib.hid hx
      have hxm : x ∈ sk := List.mem_of_getElem? hx
      obtain ⟨hx0, hx1, hx2, hx3⟩ := hsk x hxm
      clear hx
      by_cases hst : (s.next.length : Int) ≤ x.1
      · have hd2 : decide ((s.next.length : Int) ≤ x.1) = true := decide_eq_true hst
        go_wp2_with fail
        go_quiet (fail)
        go_wp2_with fail
        go_ret
        have hs : Rs.skip s.abs cum sk = (s.abs, 4) := by
          unfold Rs.skip
          rw [if_pos (List.any_eq_true.2 ⟨x, hxm, decide_eq_true (by show s.next.length ≤ _; omega)⟩)]
        refine ⟨by rw [hs]; rfl, s, (Upd.refl hr).fr0 (Fr.trans (Fr.trans (by repeat (first | (with_reducible exact Fr.refl _ _) | (with_reducible refine Fr.drewN ?_ _) | (with_reducible refine Fr.drew ?_) | (with_reducible refine Fr.alloc ?_ _))) hF) (by repeat (first | (with_reducible exact Fr.refl _ _) | (with_reducible refine Fr.drewN ?_ _) | (with_reducible refine Fr.drew ?_) | (with_reducible refine Fr.alloc ?_ _)))), by rw [hs], Same.refl s, hlim, Int.le_refl _⟩
      · have hd2 : decide ((s.next.length : Int) ≤ x.1) = false := decide_eq_false hst
        go_wp2_with fail
        go_quiet (fail)
        go_wp2_with fail
        go_roundg (sk.length - (m + 1))
        case measure =>
          rw [HK.out]
          omega
        case rel =>
          refine ⟨m + 1, rfl, hlt, rfl, hF.trans (by repeat (first | (with_reducible exact Fr.refl _ _) | (with_reducible refine Fr.drewN ?_ _) | (with_reducible refine Fr.drew ?_) | (with_reducible refine Fr.alloc ?_ _))), fun z hz => ?_⟩
          rw [List.take_add_one, HX.out] at hz
          rcases List.mem_append.1 hz with hz | hz
          · exact HALL.out z hz
          · have : z = x := by simpa using hz
            subst this
            omega
    · have hd1 : decide ((m : Int) < sk.length) = false := decide_eq_false (by omega)
      have hme : m = sk.length := by omega
      have hall2 : ∀ x ∈ sk, x.1.toNat < s.next.length := by
        have := HALL.out
        rw [hme, List.take_length] at this
        exact this
      have hsp : Rs.skip s.abs cum sk = (Rs.skipAll { s.abs with L := Rs.parts s.abs.L cum } sk, 0) := by
        unfold Rs.skip
        rw [if_neg]
        rw [Bool.not_eq_true, List.any_eq_false]
        intro x hx
        have := hall2 x hx
        rw [decide_eq_true_eq]
        show ¬ s.next.length ≤ _
        omega
      have HSP := Lib.hid hsp
      have HAL := Lib.hid hall2
      clear hsp hall2
      go_wp2_with (go_at_call 108; refine (parts_any g s cum _ hR1 hlim hh).mono ?_; rintro e w2 ⟨rfl, s0, hu0, hab0, hsm0, hl0⟩; have HAB0 := Lib.hid hab0; clear hab0; have hbx2 := hbx.fr hu0.fr hbn; have bx2 := hbx2.cell; have bx2l := hbx2.lt; have bx2ls := hbx2.lts)
      have hh0 : Rs.held s0.abs ≤ Rs.held s.abs := by
        rw [HAB0.out]
        exact held_parts_le _ _
      have hU0 := Upd.pre hF hu0
      go_loopg [35] sk.length (fun k v w3 => ∃ (m : Nat) (s1 : Gs), v = .int .i64 m ∧ m ≤ sk.length ∧ k = sk.length - m ∧ Upd g s s1 (Rs.held s1.abs) (w.alloc (.cells #[.int .u32 cum, .slice A sk.length c] 36)) w3 ∧
        Rs.skipAll s1.abs (sk.drop m) = Rs.skipAll { s.abs with L := Rs.parts s.abs.L cum } sk ∧ Same s s1 ∧ Lim s1 ∧ Rs.held s1.abs ≤ Rs.held s.abs)
      case atStart => exact ⟨0, s0, rfl, Nat.zero_le _, rfl, hU0, by rw [List.drop_zero, HAB0.out], hsm0, hl0, hh0⟩
      case round =>
        obtain ⟨q, s1, rfl, hq1, hk, hU, hrun, hsm, hl1, hh1⟩ := hrel
        have HK2 := Lib.hid hk
        have HRUN := Lib.hid hrun
        have HSM := Lib.hid hsm
        clear hk hrun hsm
        have hb3 : Blk wr w.heap.size 36 #[.int .u32 cum, .slice A sk.length c] := hbx0.fr hU.fr hbn
        have bx3 := hb3.cell
        have bx3l := hb3.lt
        have bx3ls := hb3.lts
        have hR3 := hU.at_
        by_cases hql : q < sk.length
        · have hd2 : decide ((q : Int) < sk.length) = true := decide_eq_true (by omega)
          obtain ⟨x, hx⟩ : ∃ x, sk[q]? = some x := ⟨_, List.getElem?_eq_getElem hql⟩
          obtain ⟨b, o, rfl, hb1, hb2, hb4⟩ := (hin0.fr hU.fr (fun _ _ h => h)) (by omega)
          have c0 : wr.cell? ⟨b, o + q * 2, none⟩ = some (.int .u16 x.1) := hb4 _ _ (sk_get sk q x hx).1
          have c0' : wr.cell? ⟨b, o + q * 2 + 1, none⟩ = some (.int .u16 x.2) := hb4 _ _ (sk_get sk q x hx).2
          have hxm : x ∈ sk := List.mem_of_getElem? hx
          obtain ⟨hx0, hx1, hx2, hx3⟩ := hsk x hxm
          have hdr : sk.drop q = x :: sk.drop (q + 1) := by
            rw [List.drop_eq_getElem_cons hql]
            rw [List.getElem?_eq_getElem hql] at hx
            injection hx with hx
            rw [hx]
          have HDR := Lib.hid hdr
          clear hx hdr
          have hxs : x.1 < s1.next.length := by
            have := HAL.out x hxm
            rw [HSM.out.next]
            omega
          go_wp2_with (go_at_call 109; refine (skip_any g s1 x.1 x.2 _ (hR3.fr0 (by repeat (first | (with_reducible exact Fr.refl _ _) | (with_reducible refine Fr.drewN ?_ _) | (with_reducible refine Fr.drew ?_) | (with_reducible refine Fr.alloc ?_ _)))) hx0 hxs hx2 hx3 hl1 (by omega)).mono ?_; rintro e w4 ⟨rfl, s2, hu2, hab2, hsm2, hl2, hh2⟩)
          go_roundg (sk.length - (q + 1))
          case measure =>
            rw [HK2.out]
            omega
          case rel =>
            refine ⟨q + 1, s2, rfl, hql, rfl, hU.trans (Upd.pre (by repeat (first | (with_reducible exact Fr.refl _ _) | (with_reducible refine Fr.drewN ?_ _) | (with_reducible refine Fr.drew ?_) | (with_reducible refine Fr.alloc ?_ _))) hu2), ?_, HSM.out.trans hsm2, hl2, Int.le_trans hh2 hh1⟩
            rw [← HRUN.out, HDR.out, hab2]
            rfl
        · have hd2 : decide ((q : Int) < sk.length) = false := decide_eq_false (by omega)
          go_wp2_with fail
          go_ret
          have hqe : q = sk.length := by omega
          have hrun := HRUN.out
          rw [hqe, List.drop_length] at hrun
          refine ⟨by rw [HSP.out]; rfl, s1, Upd.pre (by repeat (first | (with_reducible exact Fr.refl _ _) | (with_reducible refine Fr.drewN ?_ _) | (with_reducible refine Fr.drew ?_) | (with_reducible refine Fr.alloc ?_ _))) hU, ?_, HSM.out, hl1, hh1⟩
          rw [HSP.out, ← hrun]
          rfl
end Go.Proofs.Ytpkbckkminmdmaa
