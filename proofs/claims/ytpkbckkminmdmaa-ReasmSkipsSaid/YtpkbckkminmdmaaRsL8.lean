/- The walk of ReasmSkips. -/
import Derived.Test.YtpkbckkminmdmaaRsL5
import Derived.Test.YtpkbckkminmdmaaRsPure6
import Derived.Deep.RegionHeld3
import Derived.IntWalk
namespace Go.Proofs.Ytpkbckkminmdmaa
open Go.RowKit Go.Proofs.YtpkbckkminmdmaaW.PrintWords Go.Proofs.YtpkbckkminmdmaaW.PrintMore Go.Proofs.Ytpkbckkminmdmaa.PReasmHeld
attribute [local go_sem] alloc_drewN setCell_drewN isMap_alloc isMap_drew isMap_drewN isMap_setCell cell_setMap frozen_setMap setMap_drew setMap_drewN size_setMap field_piece0 field_data1 field_data3 field_data6

def ints (l : List Nat) : List Int := l.map fun (i : Nat) => (i : Int)
theorem ints_len (l : List Nat) : (ints l).length = l.length := List.length_map _
theorem ownb {A : Option Addr} {n c k : Nat} (h : (Value.slice A n c).ownBlock = some k) : ∃ ad, A = some ad ∧ ad.block = k := by
  cases A with
  | none => cases h
  | some ad => exact ⟨ad, rfl, by injection h⟩
def cm (came : Int) (i : Nat) : Bool := bits BinOp.and IntKind.u64 (came / 2 ^ i) 1 == 1
theorem in_u8 {n : Int} (h : (Lit.int .u8 n).wf = true) : 0 ≤ n ∧ n < 256 := by
  have h2 := of_decide_eq_true (Bool.and_eq_true_iff.1 h).1
  have h3 := of_decide_eq_true (Bool.and_eq_true_iff.1 h).2
  rw [show IntKind.u8.min = 0 by rfl] at h2
  rw [show IntKind.u8.max = 255 by rfl] at h3
  omega
set_option maxRecDepth 100000 in
set_option maxHeartbeats 8000000 in
theorem skips_walk (first many came : Int) (once : Bool) (w : World) (hf : (Lit.int .u32 first).wf = true) (hm : (Lit.int .u8 many).wf = true) (_hc : (Lit.int .u64 came).wf = true) :
    Calls Try.prog 7 #[.int .u32 first, .int .u8 many, .int .u64 came, .bool once] w (Same0 (.bool true) w) := by
  have hnew := new_good 1 w (by decide) (by decide)
  have hm2 := in_u8 hm
  obtain ⟨q, rfl⟩ := Int.eq_ofNat_of_zero_le hm2.1
  have hq : q < 256 := by omega
  clear hm hm2
  go_enter Try.func7, Try.ntmps7
  go_wp2_with (go_at_call 28; refine hnew.mono ?_; clear hnew; rintro e w1 ⟨g, mb, nb, rfl, hr0, hf0, hft0⟩)
  rw [show ((q : Int) % 61) = ((q % 61 : Nat) : Int) by omega]
  have hn61 : q % 61 < 61 := Nat.mod_lt _ (by decide)
  generalize q % 61 = n at hn61 ⊢
  clear hq
  have hfr := in_u32 hf
  clear hf _hc
  generalize hcd : cm came = cf
  have HCD := Lib.hid hcd
  clear hcd
  go_loopg [12, 13] n (fun k v12 v13 wr => ∃ (m kk : Nat) (s : Gs) (A : Option Addr) (cw : Nat), v12 = .slice A (ints (Rs.sel cf 0 m)).length cw ∧ v13 = .int .i64 m ∧ m ≤ n ∧ k = n - m ∧ RsAt wr g s (Rs.held s.abs) ∧ s.abs = Rs.ss first cf kk m ∧ kk ≤ m ∧ (kk < m → cf kk = false) ∧
    Own wr w.heap.size A cw (ints (Rs.sel cf 0 m)) ∧ (∀ ad, A = some ad → ¬ Foot g s ad.block) ∧ Fr (fun _ => False) w wr ∧ (∀ k, Foot g s k → w.heap.size ≤ k) ∧ (∀ y ∈ s.L, y.p.bytes.length ≤ 100000) ∧ s.turns ≤ m)
  case atStart => exact ⟨0, 0, newGs mb nb 1, none, 0, rfl, rfl, Nat.zero_le _, rfl, by rw [held_new]; exact hr0, rfl, Nat.le_refl _, fun h => absurd h (Nat.lt_irrefl _), ⟨by simp [nums, ints, Rs.sel], .inl ⟨rfl, rfl⟩⟩, by simp, hf0, hft0, by simp [newGs], by simp [newGs]⟩
  case round =>
    obtain ⟨m, kk, s, A, cw, rfl, rfl, hm, hk, hR, hab, hkk, hkc, hO, hA, hF, hft, hlim, htu⟩ := hrel
    have HK := Lib.hid hk
    have HAB := Lib.hid hab
    have HO := Lib.hid hO
    have HKC := Lib.hid hkc
    clear hk hab hO hkc
    by_cases hlt : m < n
    · have hd1 : decide ((m : Int) < n) = true := decide_eq_true (by omega)
      cases hcm : cf m with
      | false =>
        have hbit : (bits BinOp.and IntKind.u64 (came / 2 ^ m) 1 == 1) = false := by rw [← hcm, ← HCD.out]; rfl
        have HCM := Lib.hid hcm
        clear hcm
        go_wp2_with fail
        go_roundg (n - (m + 1))
        case measure => rw [HK.out]; omega
        case rel =>
          have e1 : Rs.sel cf 0 (m + 1) = Rs.sel cf 0 m := by rw [Rs.sel_snoc cf (Nat.zero_le m), HCM.out, if_neg (by simp), List.append_nil]
          have e2 : Rs.ss first cf kk (m + 1) = Rs.ss first cf kk m := by unfold Rs.ss; rw [Rs.sel_snoc cf hkk, HCM.out, if_neg (by simp), List.append_nil]
          refine ⟨m + 1, kk, s, A, cw, by rw [e1], rfl, hlt, rfl, hR.fr0 (by repeat (first | (with_reducible exact Fr.refl _ _) | (with_reducible refine Fr.drewN ?_ _) | (with_reducible refine Fr.drew ?_) | (with_reducible refine Fr.alloc ?_ _))), by rw [HAB.out, e2], by omega, fun _ => ?_, by rw [e1]; exact HO.out.fr (S := fun _ => False) (by repeat (first | (with_reducible exact Fr.refl _ _) | (with_reducible refine Fr.drewN ?_ _) | (with_reducible refine Fr.drew ?_) | (with_reducible refine Fr.alloc ?_ _))) (fun _ _ h => h), hA, hF.trans (by repeat (first | (with_reducible exact Fr.refl _ _) | (with_reducible refine Fr.drewN ?_ _) | (with_reducible refine Fr.drew ?_) | (with_reducible refine Fr.alloc ?_ _))), hft, hlim, by omega⟩
          rcases Nat.lt_or_ge kk m with h | h
          · exact HKC.out h
          · have : kk = m := by omega
            rw [this]
            exact HCM.out
      | true =>
        have hbit : (bits BinOp.and IntKind.u64 (came / 2 ^ m) 1 == 1) = true := by rw [← hcm, ← HCD.out]; rfl
        have HCM := Lib.hid hcm
        clear hcm
        have hsl := Rs.sel_len cf 0 m
        go_wp2_with (first
          | ((with_reducible refine gate_builtin (b := .append) (xs := #[.tmp 37, .tmp 40]) rfl ?_); at_builtin; go_must (refine print_append_num (w0 := wr) w.heap.size rfl (.tmp 37) (.tmp 40) 31 5 .u8 1 rfl Try.underlying31 info5 (by decide) (.slice A (ints (Rs.sel cf 0 m)).length cw) (ints (Rs.sel cf 0 m)) (m : Int) rfl rfl ?aO ?aB ?aS ?aL ?_; (case aO => exact HO.out); (case aB => exact Below.refl _ _); (case aS => exact hF.size); (case aL => rw [ints_len]; omega)); intro v4 w4 hO4 hB4 hG4 hN4; obtain ⟨A4, c4, rfl⟩ := own_slice hO4; have HO4 := Lib.hid hO4; have HG4 := Lib.hid hG4; have HN4 := Lib.hid hN4; have HB4 := Lib.hid hB4; clear hO4 hG4 hN4 hB4))
        have hF4 : Fr (fun k => (Value.slice A (ints (Rs.sel cf 0 m)).length cw).ownBlock = some k) wr w4 := grown_fr HG4.out
        have hA4 : ∀ ad, A4 = some ad → ¬ Foot g s ad.block := fun ad e hk => by
          have e4 : (Value.slice A4 (ints (Rs.sel cf 0 m) ++ [(m : Int)]).length c4).ownBlock = some ad.block := by rw [e]; rfl
          rcases HN4.out with h | ⟨b, h, hb⟩
          · rw [e4] at h
            obtain ⟨ad', e', hb'⟩ := ownb h.symm
            exact hA ad' e' (by rw [hb']; exact hk)
          · rw [e4] at h
            injection h with h
            have := hR.foot_lt hk
            omega
        have hR4 : RsAt w4 g s (Rs.held s.abs) := hR.fr hF4 (fun k hk h => by obtain ⟨ad, e, hb⟩ := ownb h; exact hA ad e (by rw [hb]; exact hk))
        obtain ⟨k', hk1, hput, hk2⟩ := Rs.put_ss (first := first) (c := cf) (k := kk) HCM.out hkk (by omega)
        have hheld := Rs.held_ss (first := first) (c := cf) hkk
        have hbin : BIn (w4.alloc (.cells #[.int .u8 (m : Int)] 5)) (some ⟨w4.heap.size, 0, none⟩) [(m : Int)] := fun _ => ⟨_, rfl, by simp, fun i hi => by
          have : i = 0 := by simp at hi; omega
          subst this
          exact (Blk.new w4 5 #[.int .u8 (m : Int)]).cell 0⟩
        have hp := put_seq (c := 1) (hR4.fr0 (w' := w4.alloc (.cells #[.int .u8 (m : Int)] 5)) (by repeat (first | (with_reducible exact Fr.refl _ _) | (with_reducible refine Fr.drewN ?_ _) | (with_reducible refine Fr.drew ?_) | (with_reducible refine Fr.alloc ?_ _)))) HAB.out (show (Rs.put (Rs.ss first cf kk m) (Rs.lone first m)).2 = 0 by rw [hput]) (show (Rs.put (Rs.ss first cf kk m) (Rs.lone first m)).1 = Rs.ss first cf k' (m + 1) by rw [hput]) hlim (by omega) ⟨⟨by show (0 : Int) ≤ 0; decide, by show (0 : Int) < 65536; decide⟩, ⟨by show 0 ≤ (m : Int); omega, by show (m : Int) < 65536; omega⟩, ⟨by show 0 ≤ (first + m) % 4294967296; omega, by show (first + m) % 4294967296 < 4294967296; omega⟩, by show 1 ≤ 100000; decide⟩ (by rw [hheld]; omega) hbin
        go_at_call 42
        refine hp.mono ?_
        clear hp hput hheld hbin
        rintro e w5 ⟨rfl, s', hu, hab', htu', hl'⟩
        have HU := Lib.hid hu
        have HAB' := Lib.hid hab'
        have HK2 := Lib.hid hk2
        have HHF := Lib.hid hF4
        clear hu hab' hk2 hF4
        go_wp2_with fail
        go_roundg (n - (m + 1))
        case measure => rw [HK.out]; omega
        case rel =>
          have e1 : ints (Rs.sel cf 0 (m + 1)) = ints (Rs.sel cf 0 m) ++ [(m : Int)] := by rw [Rs.sel_snoc cf (Nat.zero_le m), HCM.out, if_pos rfl]; unfold ints; rw [List.map_append]; rfl
          have F5 : Fr (fun _ => False) w (w4.alloc (.cells #[.int .u8 (m : Int)] 5)) := (hF.then HHF.out (fun i hi => by obtain ⟨ad, e, hb⟩ := ownb hi; exact .inr (by rw [← hb]; exact HO.out.far ad e))).alloc _
          obtain ⟨F6, ft6⟩ := HU.out.out F5 hft
          refine ⟨m + 1, k', s', A4, c4, by rw [e1]; simp, rfl, hlt, rfl, HU.out.at_.fr0 (by repeat (first | (with_reducible exact Fr.refl _ _) | (with_reducible refine Fr.drewN ?_ _) | (with_reducible refine Fr.drew ?_) | (with_reducible refine Fr.alloc ?_ _))), HAB'.out, hk1, HK2.out, ?_, ?_, F6.trans (by repeat (first | (with_reducible exact Fr.refl _ _) | (with_reducible refine Fr.drewN ?_ _) | (with_reducible refine Fr.drew ?_) | (with_reducible refine Fr.alloc ?_ _))), ft6, hl', by omega⟩
          · rw [e1]
            have h1 : Own w4 w.heap.size A4 c4 (ints (Rs.sel cf 0 m) ++ [(m : Int)]) := HO4.out
            exact ((h1.fr (S := fun _ => False) (w' := w4.alloc (.cells #[.int .u8 (m : Int)] 5)) (by repeat (first | (with_reducible exact Fr.refl _ _) | (with_reducible refine Fr.drewN ?_ _) | (with_reducible refine Fr.drew ?_) | (with_reducible refine Fr.alloc ?_ _))) (fun _ _ h => h)).fr HU.out.fr hA4).fr (S := fun _ => False) (by repeat (first | (with_reducible exact Fr.refl _ _) | (with_reducible refine Fr.drewN ?_ _) | (with_reducible refine Fr.drew ?_) | (with_reducible refine Fr.alloc ?_ _))) (fun _ _ h => h)
          · intro ad e
            refine foot_after HU.out ?_ (hA4 ad e)
            have := own_lt HO4.out ad.block (by rw [e]; rfl)
            simp
            omega
    · have hd1 : decide ((m : Int) < n) = false := decide_eq_false (by omega)
      obtain rfl : m = n := by omega
      clear hlt hm
      go_wp2_with fail
      go_loopg [14] m (fun k v14 wr2 => ∃ (j kk : Nat) (s : Gs), v14 = .int .i64 j ∧ j ≤ m ∧ k = m - j ∧ RsAt wr2 g s (Rs.held s.abs) ∧ s.abs = Rs.ss first cf kk m ∧ kk ≤ m ∧ (kk < m → cf kk = false) ∧ (once = false → j ≤ kk) ∧ (once = true → j = m → kk = m) ∧
        Own wr2 w.heap.size A cw (ints (Rs.sel cf 0 m)) ∧ (∀ ad, A = some ad → ¬ Foot g s ad.block) ∧ Fr (fun _ => False) w wr2 ∧ (∀ k, Foot g s k → w.heap.size ≤ k) ∧ (∀ y ∈ s.L, y.p.bytes.length ≤ 100000) ∧ s.turns ≤ m)
      case atStart => exact ⟨0, kk, s, rfl, Nat.zero_le _, rfl, hR, HAB.out, hkk, HKC.out, fun _ => Nat.zero_le _, fun _ e => by omega, HO.out, hA, hF, hft, hlim, htu⟩
      case round =>
        clear HK HAB HKC HO hkk hR hA hF hft hlim htu s kk
        obtain ⟨j, kk, s, rfl, hj, hk, hR, hab, hkk, hkc, ho1, ho2, hO, hA, hF, hft, hlim, htu⟩ := hrel
        have HK := Lib.hid hk
        have HAB := Lib.hid hab
        have HO := Lib.hid hO
        have HKC := Lib.hid hkc
        have HO1 := Lib.hid ho1
        have HO2 := Lib.hid ho2
        clear hk hab hO hkc ho1 ho2
        by_cases hlt : j < m
        · have hd1 : decide ((j : Int) < m) = true := decide_eq_true (by omega)
          by_cases hgo : once = false ∨ j + 1 = m
          · have hb : (!once || ((j : Int) == m - 1)) = true := by
              rcases hgo with h | h
              · rw [h]; rfl
              · rw [Bool.or_eq_true]
                exact .inr (beq_iff_eq.2 (by omega))
            obtain ⟨k', hk0, hk1, hskip, hk2⟩ := Rs.skip_ss (first := first) (c := cf) (n := m) ((first + j) % 4294967296) hlt (by omega) hkk HKC.out
            have hheld := Rs.held_ss (first := first) (c := cf) hkk
            have hsl := Rs.sel_len cf 0 m
            have hskin := skin_one wr 0 j (S := Foot g s) (fun k hk => hR.foot_lt hk)
            have hp := skipn_seq (c := 1) (hR.fr0 (w' := wr.alloc (.cells #[.int .u16 0, .int .u16 (j : Int)] 67)) (by repeat (first | (with_reducible exact Fr.refl _ _) | (with_reducible refine Fr.drewN ?_ _) | (with_reducible refine Fr.drew ?_) | (with_reducible refine Fr.alloc ?_ _)))) HAB.out (show (Rs.skip (Rs.ss first cf kk m) ((first + j) % 4294967296) [(0, (j : Int))]).2 = 0 by rw [hskip]) (show (Rs.skip (Rs.ss first cf kk m) ((first + j) % 4294967296) [(0, (j : Int))]).1 = Rs.ss first cf k' m by rw [hskip]) hlim (by omega) (by rw [hheld]; omega) (by intro x hx; have : x = (0, (j : Int)) := (by simpa using hx); subst this; exact ⟨Int.le_refl 0, by show (0 : Int) < 65536; decide, by show 0 ≤ (j : Int); omega, by show (j : Int) < 65536; omega⟩) (by show 1 ≤ 1000; decide) hskin
            have HP := Lib.hid hp
            have HGO := Lib.hid hgo
            clear hp hskip hheld hskin hgo
            have fin : ∀ w5 s', Upd g s s' (Rs.held s'.abs) (wr.alloc (.cells #[.int .u16 0, .int .u16 (j : Int)] 67)) w5 → s'.abs = Rs.ss first cf k' m → s'.turns = s.turns → (∀ y ∈ s'.L, y.p.bytes.length ≤ 100000) →
                ∃ (j' kk : Nat) (s : Gs), Value.int .i64 ((j : Int) + 1) = .int .i64 j' ∧ j' ≤ m ∧ m - (j + 1) = m - j' ∧ RsAt w5 g s (Rs.held s.abs) ∧ s.abs = Rs.ss first cf kk m ∧ kk ≤ m ∧ (kk < m → cf kk = false) ∧ (once = false → j' ≤ kk) ∧ (once = true → j' = m → kk = m) ∧
                  Own w5 w.heap.size A cw (ints (Rs.sel cf 0 m)) ∧ (∀ ad, A = some ad → ¬ Foot g s ad.block) ∧ Fr (fun _ => False) w w5 ∧ (∀ k, Foot g s k → w.heap.size ≤ k) ∧ (∀ y ∈ s.L, y.p.bytes.length ≤ 100000) ∧ s.turns ≤ m := fun w5 s' hu hab' ht' hl' => by
              obtain ⟨F6, ft6⟩ := hu.out (hF.alloc _) hft
              refine ⟨j + 1, k', s', rfl, hlt, rfl, hu.at_, hab', hk1, hk2, fun _ => hk0, fun _ e => by omega, (HO.out.fr (S := fun _ => False) (by repeat (first | (with_reducible exact Fr.refl _ _) | (with_reducible refine Fr.drewN ?_ _) | (with_reducible refine Fr.drew ?_) | (with_reducible refine Fr.alloc ?_ _))) (fun _ _ h => h)).fr hu.fr hA, fun ad e => ?_, F6, ft6, hl', by rw [ht']; exact htu⟩
              refine foot_after hu ?_ (hA ad e)
              have := own_lt HO.out ad.block (by rw [e]; rfl)
              simp
              omega
            have FIN := Lib.hid fin
            clear fin hk2
            cases once with
            | false =>
              go_wp2_with fail
              go_at_call 46
              refine HP.out.mono ?_
              rintro e w5 ⟨rfl, s', hu, hab', ht', hl'⟩
              have F := FIN.out w5 s' hu hab' ht' hl'.2
              have HF := Lib.hid F
              clear hu hab' ht' hl' F
              go_wp2_with fail
              go_roundg (m - (j + 1))
              case measure => rw [HK.out]; omega
              case rel => exact HF.out
            | true =>
              have hjm : ((j : Int) == m - 1) = true := by simpa using hb
              go_wp2_with fail
              go_at_call 46
              refine HP.out.mono ?_
              rintro e w5 ⟨rfl, s', hu, hab', ht', hl'⟩
              have F := FIN.out w5 s' hu hab' ht' hl'.2
              have HF := Lib.hid F
              clear hu hab' ht' hl' F
              go_wp2_with fail
              go_roundg (m - (j + 1))
              case measure => rw [HK.out]; omega
              case rel => exact HF.out
          · have hon : once = true := by
              cases once with
              | true => rfl
              | false => exact absurd (.inl rfl) hgo
            subst hon
            have hjm : ((j : Int) == m - 1) = false := beq_eq_false_iff_ne.2 (fun e => hgo (.inr (by omega)))
            have HGO := Lib.hid hgo
            clear hgo
            go_wp2_with fail
            go_roundg (m - (j + 1))
            case measure => rw [HK.out]; omega
            case rel => exact ⟨j + 1, kk, s, rfl, hlt, rfl, hR.fr0 (by repeat (first | (with_reducible exact Fr.refl _ _) | (with_reducible refine Fr.drewN ?_ _) | (with_reducible refine Fr.drew ?_) | (with_reducible refine Fr.alloc ?_ _))), HAB.out, hkk, HKC.out, (fun h => by cases h), (fun _ e => absurd (.inr e) HGO.out), HO.out.fr (S := fun _ => False) (by repeat (first | (with_reducible exact Fr.refl _ _) | (with_reducible refine Fr.drewN ?_ _) | (with_reducible refine Fr.drew ?_) | (with_reducible refine Fr.alloc ?_ _))) (fun _ _ h => h), hA, hF.trans (by repeat (first | (with_reducible exact Fr.refl _ _) | (with_reducible refine Fr.drewN ?_ _) | (with_reducible refine Fr.drew ?_) | (with_reducible refine Fr.alloc ?_ _))), hft, hlim, htu⟩
        · have hd1 : decide ((j : Int) < m) = false := decide_eq_false (by omega)
          obtain rfl : j = m := by omega
          have hke : kk = j := by
            cases once with
            | true => exact HO2.out rfl rfl
            | false => have := HO1.out rfl; omega
          subst hke
          have hab2 : s.abs = ⟨[], [(kk : Int)], (Rs.sel cf 0 kk).map Rs.lmsg⟩ := by rw [HAB.out, Rs.ss_end]
          have hrl : s.row.length = (ints (Rs.sel cf 0 kk)).length := by
            have := congrArg (fun st => st.row.length) hab2
            simpa [Gs.abs, ints] using this
          have hhl : Rs.held s.abs = ((ints (Rs.sel cf 0 kk)).length : Int) := by rw [HAB.out, Rs.held_ss (Nat.le_refl _), ints_len]
          have b1 : ((s.row.length : Int) != ((ints (Rs.sel cf 0 kk)).length : Int)) = false := by rw [hrl]; simp
          have b2 : (Rs.held s.abs != ((ints (Rs.sel cf 0 kk)).length : Int)) = false := by rw [hhl]; simp
          have HAB2 := Lib.hid hab2
          have HHL := Lib.hid hhl
          have hsl := Rs.sel_len cf 0 kk
          have hsl2 := ints_len (Rs.sel cf 0 kk)
          have HSL2 := Lib.hid hsl2
          clear hab2 hrl hhl hsl2 hlt hj
          go_wp2_with (first
            | (go_at_call 34; refine (readyN_any hR).mono ?_; rintro e w5 ⟨rfl, hf5⟩)
            | (go_at_call 30; refine (held_any (hR.fr0 hf5)).mono ?_; rintro e w6 ⟨rfl, hf6⟩))
          have HR6 := Lib.hid ((hR.fr0 hf5).fr0 hf6)
          have HF6 := Lib.hid ((hF.trans hf5).trans hf6)
          have HO6 := Lib.hid ((HO.out.fr hf5 (fun _ _ h => h)).fr hf6 (fun _ _ h => h))
          clear hR hF hf5 hf6 HO b1 b2 HO1 HO2 HKC HK hd1
          go_loopg [15] (ints (Rs.sel cf 0 kk)).length (fun k v15 wr3 => ∃ (j : Nat) (s : Gs), v15 = .int .i64 j ∧ j ≤ (ints (Rs.sel cf 0 kk)).length ∧ k = (ints (Rs.sel cf 0 kk)).length - j ∧ RsAt wr3 g s (Rs.held s.abs) ∧ s.abs = ⟨[], [(kk : Int)], ((Rs.sel cf 0 kk).drop j).map Rs.lmsg⟩ ∧
            Own wr3 w.heap.size A cw (ints (Rs.sel cf 0 kk)) ∧ (∀ ad, A = some ad → ¬ Foot g s ad.block) ∧ Fr (fun _ => False) w wr3 ∧ (∀ k, Foot g s k → w.heap.size ≤ k) ∧ s.turns ≤ kk)
          case atStart => exact ⟨0, s, rfl, Nat.zero_le _, rfl, HR6.out, by rw [HAB2.out, List.drop_zero], HO6.out, hA, HF6.out, hft, htu⟩
          case round =>
            clear HR6 HF6 HO6 HAB2 HAB HHL hA hft hlim htu
            obtain ⟨j, s3, rfl, hj, hk, hR, hab, hO, hA, hF, hft, htu⟩ := hrel
            have HK := Lib.hid hk
            have HAB := Lib.hid hab
            have HO := Lib.hid hO
            clear hk hab hO
            by_cases hlt : j < (ints (Rs.sel cf 0 kk)).length
            · have hd1 : decide ((j : Int) < (ints (Rs.sel cf 0 kk)).length) = true := decide_eq_true (by omega)
              have hjl : j < (Rs.sel cf 0 kk).length := by have := HSL2.out; omega
              have htk : Rs.take ⟨[], [(kk : Int)], ((Rs.sel cf 0 kk).drop j).map Rs.lmsg⟩ = some (Rs.lmsg (Rs.sel cf 0 kk)[j], ⟨[], [(kk : Int)], ((Rs.sel cf 0 kk).drop (j + 1)).map Rs.lmsg⟩) := by
                rw [List.drop_eq_getElem_cons hjl]
                rfl
              have hget : (ints (Rs.sel cf 0 kk))[j]? = some ((Rs.sel cf 0 kk)[j] : Int) := by unfold ints; rw [List.getElem?_map, List.getElem?_eq_getElem hjl]; rfl
              generalize (Rs.sel cf 0 kk)[j] = x at htk hget
              have hh : Rs.held ⟨[], [(kk : Int)], ((Rs.sel cf 0 kk).drop j).map Rs.lmsg⟩ < 1000000000 := by
                have h1 := Rs.held_lmsg kk ((Rs.sel cf 0 kk).drop j)
                rw [h1, List.length_drop]
                omega
              have hp := take_seq hR HAB.out hh htk
              have HGET := Lib.hid hget
              have HH := Lib.hid hh
              clear htk hget hh
              go_wp2_with fail
              go_at_call 37
              refine hp.mono ?_
              clear hp
              rintro e w5 ⟨b, c, s', rfl, hu, hab', hnx', htu', hL', hby, hnb', hfb⟩
              unfold Rs.lmsg at hby ⊢
              go_wp2_with fail
              obtain ⟨gA, cur, rfl, hgA, hbA, hcs, hle, hcur⟩ : ∃ gA cur, A = some ⟨gA, 0, none⟩ ∧ w.heap.size ≤ gA ∧ Blk wr gA 5 cur ∧ cur.size = cw ∧ (ints (Rs.sel cf 0 kk)).length ≤ cw ∧ cur.toList.take (ints (Rs.sel cf 0 kk)).length = nums .u8 (ints (Rs.sel cf 0 kk)) := by
                rcases HO.out.blk with ⟨_, e, _⟩ | h
                · rw [e] at hlt; exact absurd hlt (Nat.not_lt_zero _)
                · exact h
              have hcell : wr.cell? ⟨gA, j, none⟩ = some (.int .u8 (x : Int)) := by
                rw [hbA.cell, ← Array.getElem?_toList]
                have : (cur.toList.take (ints (Rs.sel cf 0 kk)).length)[j]? = (nums .u8 (ints (Rs.sel cf 0 kk)))[j]? := by rw [hcur]
                rw [List.getElem?_take_of_lt hlt] at this
                rw [this]
                unfold nums
                rw [List.getElem?_map, HGET.out]
                rfl
              have hcell5 : w5.cell? ⟨gA, j, none⟩ = some (.int .u8 (x : Int)) := (hu.fr.cell (a := ⟨gA, j, none⟩) hbA.lt (hA ⟨gA, 0, none⟩ rfl)).trans hcell
              have hgl5 : gA < w5.heap.size := hu.fr.lt_of hbA.lt
              have hsm : ∀ (d : Nat) (W' : World), Fr (fun _ => False) w5 W' → Calls Try.prog 33 #[.agg #[.int .u16 0, .bool true, .slice (some ⟨b, 0, none⟩) 1 c], .agg #[.int .u16 0, .bool true, .slice (some ⟨gA, j, none⟩) 1 d]] W' (Same0 (.bool true) W') := fun d W' hf => by
                have h1 := same_any ⟨0, true, [(x : Int)]⟩ ⟨0, true, [(x : Int)]⟩ (some ⟨b, 0, none⟩) (some ⟨gA, j, none⟩) c d W' (hby.bin.fr0 hf) (fun _ => ⟨_, rfl, hf.lt_of hgl5, fun i hi => by
                  have : i = 0 := by simp at hi; omega
                  subst this
                  exact (hf.cell (a := ⟨gA, j, none⟩) hgl5 (fun h => h)).trans hcell5⟩)
                rwa [sameMs_self] at h1
              have HSM := Lib.hid hsm
              have HU := Lib.hid hu
              have HAB' := Lib.hid hab'
              have HNX := Lib.hid hnx'
              have HTU := Lib.hid htu'
              have HL := Lib.hid hL'
              clear hsm hu hab' hnx' htu' hL' hby hcell hcell5 hbA hcur hcs
              have hjc : j < cw := by omega
              have hjc2 : 0 < cw - j := by omega
              have hjc3 : ¬ cw = j := by omega
              have s1 : (0 : Int) ≤ (j : Int) := by omega
              have s2 : (j : Int) ≤ (cw : Int) := by omega
              have s3 : (0 : Int) ≤ (j : Int) + 1 := by omega
              have s4 : (j : Int) + 1 ≤ (cw : Int) := by omega
              have s5 : (j : Int) ≤ (j : Int) + 1 := by omega
              have hj64 : (j : Int) < 100 := by omega
              have s6 : IntKind.i64.wrap ((j : Int) + 1) = (j : Int) + 1 := IntWalk.i64_in _ (by omega)
              have s7 : ((j : Int) + 1).toNat = j + 1 := by omega
              have s8 : j + 1 - j = 1 := by omega
              go_region_held3 (fun w' => w'.cell? ⟨w5.heap.size, 0, none⟩ = some (.int .u16 0) ∧ w'.cell? ⟨w5.heap.size, 1, none⟩ = some (.bool true) ∧ w'.cell? ⟨w5.heap.size, 2, none⟩ = some (.slice (some ⟨b, 0, none⟩) 1 c)) (first | go_keep | (go_split_ands; refine ⟨?_, ?_, ?_⟩ <;> (rw [hf6.cell (by simp) (fun h => h)]; first | assumption | (exact (Blk.new w5 40 #[.int .u16 0, .bool true, .slice (some ⟨b, 0, none⟩) 1 c]).cell _)))) ((go_at_call 33; (with_reducible refine (HSM.out _ _ ?hfr).mono ?_); (case hfr => repeat (first | exact Fr.refl _ _ | apply Fr.drewN | apply Fr.drew | apply Fr.alloc)); rintro e w6 ⟨rfl, hf6⟩))
              clear s1 s2 s3 s4 s5 s6 s7 s8
              go_wp2_with fail
              go_roundg ((ints (Rs.sel cf 0 kk)).length - (j + 1))
              case measure => rw [HK.out]; omega
              case rel =>
                obtain ⟨F7, ft7⟩ := HU.out.out hF hft
                exact ⟨j + 1, s', rfl, hlt, rfl, (HU.out.at_.fr0 (Fr.trans (S := fun _ => False) (by repeat (first | (with_reducible exact Fr.refl _ _) | (with_reducible refine Fr.drewN ?_ _) | (with_reducible refine Fr.drew ?_) | (with_reducible refine Fr.alloc ?_ _))) hf6)).fr0 (by repeat (first | (with_reducible exact Fr.refl _ _) | (with_reducible refine Fr.drewN ?_ _) | (with_reducible refine Fr.drew ?_) | (with_reducible refine Fr.alloc ?_ _))), HAB'.out, ((HO.out.fr HU.out.fr (fun ad e => hA ad e)).fr (Fr.trans (S := fun _ => False) (by repeat (first | (with_reducible exact Fr.refl _ _) | (with_reducible refine Fr.drewN ?_ _) | (with_reducible refine Fr.drew ?_) | (with_reducible refine Fr.alloc ?_ _))) hf6) (fun _ _ h => h)).fr (S := fun _ => False) (by repeat (first | (with_reducible exact Fr.refl _ _) | (with_reducible refine Fr.drewN ?_ _) | (with_reducible refine Fr.drew ?_) | (with_reducible refine Fr.alloc ?_ _))) (fun _ _ h => h), fun ad e => foot_after HU.out (by have := own_lt HO.out ad.block (by rw [e]; rfl); omega) (hA ad e), ((F7.trans (Fr.trans (S := fun _ => False) (by repeat (first | (with_reducible exact Fr.refl _ _) | (with_reducible refine Fr.drewN ?_ _) | (with_reducible refine Fr.drew ?_) | (with_reducible refine Fr.alloc ?_ _))) hf6)).trans (by repeat (first | (with_reducible exact Fr.refl _ _) | (with_reducible refine Fr.drewN ?_ _) | (with_reducible refine Fr.drew ?_) | (with_reducible refine Fr.alloc ?_ _)))), ft7, by rw [HTU.out]; exact htu⟩
            · have hd1 : decide ((j : Int) < (ints (Rs.sel cf 0 kk)).length) = false := decide_eq_false (by omega)
              have hjn : (Rs.sel cf 0 kk).length ≤ j := by have := HSL2.out; omega
              have hab2 : s3.abs = ⟨[], [(kk : Int)], []⟩ := by rw [HAB.out, List.drop_eq_nil_of_le hjn]; rfl
              have hL0 : s3.L = [] := by
                have := congrArg (fun st => st.L) hab2
                exact List.map_eq_nil_iff.1 this
              have hbin : BIn (wr.alloc (.cells #[.int .u8 9] 5)) (some ⟨wr.heap.size, 0, none⟩) [9] := fun _ => ⟨_, rfl, by simp, fun i hi => by
                have : i = 0 := by simp at hi; omega
                subst this
                exact (Blk.new wr 5 #[.int .u8 9]).cell 0⟩
              have hput := Rs.put_end (n := kk) (by omega) ((first + 1000) % 4294967296) 9
              have hp := put_seq (c := 1) (hR.fr0 (w' := wr.alloc (.cells #[.int .u8 9] 5)) (by repeat (first | (with_reducible exact Fr.refl _ _) | (with_reducible refine Fr.drewN ?_ _) | (with_reducible refine Fr.drew ?_) | (with_reducible refine Fr.alloc ?_ _)))) hab2 (show (Rs.put ⟨[], [(kk : Int)], []⟩ ⟨(first + 1000) % 4294967296, 0, kk, false, true, true, [9]⟩).2 = 0 by rw [hput]) (show (Rs.put ⟨[], [(kk : Int)], []⟩ ⟨(first + 1000) % 4294967296, 0, kk, false, true, true, [9]⟩).1 = _ by rw [hput]) (by rw [hL0]; intro x hx; cases hx) (by omega) ⟨⟨Int.le_refl 0, by show (0 : Int) < 65536; decide⟩, ⟨by show 0 ≤ (kk : Int); omega, by show (kk : Int) < 65536; omega⟩, ⟨by show 0 ≤ (first + 1000) % 4294967296; omega, by show (first + 1000) % 4294967296 < 4294967296; omega⟩, by show 1 ≤ 100000; decide⟩ (by show (0 : Int) < 1000000000; decide) hbin
              clear hput hbin hL0 hab2
              go_wp2_with fail
              go_at_call 42
              refine hp.mono ?_
              clear hp
              rintro e w5 ⟨rfl, s', hu, hab', htu', hl'⟩
              have hrl : s'.row.length = 1 := by
                have := congrArg (fun st => st.row.length) hab'
                simpa [Gs.abs] using this
              have hrd := readyN_any hu.at_
              rw [hrl] at hrd
              obtain ⟨F7, _⟩ := hu.out (hF.alloc _) hft
              clear hu hab' htu' hl' hrl
              go_wp2_with (first
                | (go_at_call 34; refine hrd.mono ?_; clear hrd; rintro e w6 ⟨rfl, hf6⟩)
                | (go_at_call 27; refine (works_any _).mono ?_; rintro e w7 ⟨rfl, hf7⟩))
              go_ret
              exact ⟨rfl, (F7.trans hf6).trans hf7⟩
end Go.Proofs.Ytpkbckkminmdmaa
