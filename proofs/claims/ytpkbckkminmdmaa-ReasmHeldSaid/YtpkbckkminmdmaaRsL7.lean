/- Whatever is done; the walk of ReasmHeld. -/
import Derived.Test.YtpkbckkminmdmaaRsL6
namespace Go.Proofs.Ytpkbckkminmdmaa
open Go.RowKit Go.Proofs.YtpkbckkminmdmaaW.PrintWords Go.Proofs.YtpkbckkminmdmaaW.PrintMore Go.Proofs.Ytpkbckkminmdmaa.PReasmHeld
attribute [local go_sem] alloc_drewN setCell_drewN isMap_alloc isMap_drew isMap_drewN isMap_setCell cell_setMap frozen_setMap setMap_drew setMap_drewN size_setMap field_piece0 field_data1 field_data3 field_data6

theorem does_any (g : Nat) (s : Gs) (x : S38) (A7 A9 : Option Addr) (c7 c9 : Nat) (w : World) (hr : RsAt w g s (Rs.held s.abs)) (hlim : ∀ y ∈ s.L, y.p.bytes.length ≤ 100000) (ht : s.turns < 1000) (hh : Rs.held s.abs ≤ 1000000)
    (hin : OpIn w (Foot g s) x A7 A9 c7 c9) :
    Calls Try.prog 29 #[.pointer (some ⟨g, 0, none⟩), .agg #[.int .i64 x.f0, .int .u32 x.f1.f0, .int .u16 x.f1.f1, .int .u16 x.f1.f2, .bool x.f1.f3, .bool x.f1.f4, .bool x.f1.f5, .slice A7 x.f1.f6.length c7, .int .u32 x.f2.f0, .slice A9 x.f2.f1.length c9]] w (DoP g s (doR s.abs x) w) := by
  by_cases h0 : x.f0 = 0
  · exact does_put g s x A7 A9 c7 c9 w hr hlim ht (by omega) hin h0
  · by_cases h1 : x.f0 = 1
    · exact does_skip g s x A7 A9 c7 c9 w hr hlim ht (by omega) hin h1
    · by_cases h2 : x.f0 = 2
      · exact does_take g s x A7 A9 c7 c9 w hr hlim hh h2
      · exact does_other g s x A7 A9 c7 c9 w hr hlim h0 h1 h2
/-- A thing that is done lies at an address. -/
structure OpAt (w : World) (ad : Addr) (x : S38) (A7 A9 : Option Addr) (c7 c9 : Nat) : Prop where
  e0 : w.cell? ad = some (.int .i64 x.f0)
  e1 : w.cell? ⟨ad.block, ad.off + 1, none⟩ = some (.int .u32 x.f1.f0)
  e2 : w.cell? ⟨ad.block, ad.off + 2, none⟩ = some (.int .u16 x.f1.f1)
  e3 : w.cell? ⟨ad.block, ad.off + 3, none⟩ = some (.int .u16 x.f1.f2)
  e4 : w.cell? ⟨ad.block, ad.off + 4, none⟩ = some (.bool x.f1.f3)
  e5 : w.cell? ⟨ad.block, ad.off + 5, none⟩ = some (.bool x.f1.f4)
  e6 : w.cell? ⟨ad.block, ad.off + 6, none⟩ = some (.bool x.f1.f5)
  e7 : w.cell? ⟨ad.block, ad.off + 7, none⟩ = some (.slice A7 x.f1.f6.length c7)
  e8 : w.cell? ⟨ad.block, ad.off + 8, none⟩ = some (.int .u32 x.f2.f0)
  e9 : w.cell? ⟨ad.block, ad.off + 9, none⟩ = some (.slice A9 x.f2.f1.length c9)
theorem OpAt.below {w w' : World} {ad : Addr} {x : S38} {A7 A9 : Option Addr} {c7 c9 : Nat} (h : OpAt w ad x A7 A9 c7 c9) (hb : Below w.heap.size w w') : OpAt w' ad x A7 A9 c7 c9 :=
  ⟨pw_cell_below hb h.e0, pw_cell_below hb h.e1, pw_cell_below hb h.e2, pw_cell_below hb h.e3, pw_cell_below hb h.e4, pw_cell_below hb h.e5, pw_cell_below hb h.e6, pw_cell_below hb h.e7, pw_cell_below hb h.e8, pw_cell_below hb h.e9⟩
theorem OpAt.lts {w : World} {ad : Addr} {x : S38} {A7 A9 : Option Addr} {c7 c9 : Nat} (h : OpAt w ad x A7 A9 c7 c9) : ad.block < w.heap.size ∧ ∀ k, ad.block < w.heap.size + k := by
  have := World.block_lt_of_cell? w ad h.e0
  exact ⟨this, fun k => by omega⟩
theorem op_at {w : World} {A : Option Addr} {l : List S38} (h : Kd.C k38 w A l.length l) (m : Nat) (hm : m < l.length) : ∃ ad A7 A9 c7 c9, A = some ad ∧ OpAt w (ad.add (m * 10)) l[m] A7 A9 c7 c9 ∧ l[m].f1.f6.length ≤ c7 ∧ (Kd.int .u8).C w A7 l[m].f1.f6.length l[m].f1.f6 ∧ l[m].f2.f1.length ≤ c9 ∧ k67.C w A9 l[m].f2.f1.length l[m].f2.f1 := by
  obtain ⟨ad, A7, c7, A9, c9, h0, h1, h2, h3, h4, h5, h6, h7, h8, h9, h10, h11, h12, h13, h14⟩ := at_T38 h (m : Int) (by omega) (by omega)
  have hrd : rd_T38 l (m : Int) = l[m] := by
    unfold rd_T38
    rw [Int.toNat_natCast, List.getD_eq_getElem?_getD, List.getElem?_eq_getElem hm]
    rfl
  rw [hrd] at h1 h2 h3 h4 h5 h6 h7 h8 h9 h10 h11 h12 h13 h14
  rw [Int.toNat_natCast] at h1 h2 h3 h4 h5 h6 h7 h8 h9 h10
  exact ⟨ad, A7, A9, c7, c9, h0, ⟨h1, h2, h3, h4, h5, h6, h7, h8, h9, h10⟩, h11, h12, h13, h14⟩
/-- The input's parts, read behind the call, apart from what was made. -/
theorem op_in {w W : World} {S : Nat → Prop} {x : S38} {A7 A9 : Option Addr} {c7 c9 : Nat} (h1 : x.f1.f6.length ≤ c7) (h2 : (Kd.int .u8).C w A7 x.f1.f6.length x.f1.f6) (h3 : x.f2.f1.length ≤ c9) (h4 : k67.C w A9 x.f2.f1.length x.f2.f1) (hq : Q38 x) (l1 : x.f1.f6.length ≤ 100000) (l2 : x.f2.f1.length ≤ 1000)
    (hF : Fr (fun _ => False) w W) (hS : ∀ k, S k → w.heap.size ≤ k) : OpIn W S x A7 A9 c7 c9 := by
  have hb : Below w.heap.size w W := hF.below (Nat.le_refl _) (fun _ h => h.elim)
  have hbin := bin_of_reads h2
  refine ⟨hbin.fr0 hF, fun ad e hp hs => ?_, Kd.C_below h4 hb, h1, h3, hq, l1, l2⟩
  obtain ⟨ad', e', hl, _⟩ := hbin hp
  rw [e] at e'
  injection e' with e'
  subst e'
  have := hS _ hs
  omega
theorem held_put {s : Gs} (hok : s.Ok) (hL : Lim s) {d : Rs.Pc} (ht0 : 0 ≤ d.tsn) (ht1 : d.tsn < 4294967296) (hc : (Rs.put s.abs d).2 = 0) : Rs.held (Rs.put s.abs d).1 = Rs.held s.abs + d.bytes.length := by
  obtain ⟨a1, a2, a3, a4⟩ := Rs.put_taken hc
  have hf := hok.fine hL
  have hfd : Rs.Fine (s.abs.L ++ [d]) := by
    refine ⟨?_, ?_, ?_⟩
    · rw [List.map_append, List.nodup_append]
      refine ⟨hf.keys, by simp, fun a ha b hb e => ?_⟩
      rw [show List.map (fun x => x.tsn) [d] = [d.tsn] from rfl, List.mem_singleton] at hb
      obtain ⟨x, hx, hxe⟩ := List.mem_map.1 ha
      have := Rs.get_of_mem hf.keys hx
      rw [hxe, e, hb, a4] at this
      cases this
    · intro x hx
      rcases List.mem_append.1 hx with hx | hx
      · exact hf.rng x hx
      · rw [List.mem_singleton.1 hx]
        exact ⟨ht0, ht1⟩
    · have h2 := hL.L hok
      have h3 : s.abs.L.length = s.L.length := by show (s.L.map (·.p)).length = _; rw [List.length_map]
      rw [List.length_append, h3]
      simp
      omega
  have := Rs.put_held hfd
  rw [if_pos hc] at this
  exact this
theorem doR_held {s : Gs} {x : S38} (hok : s.Ok) (hL : Lim s) (hq : Q38 x) (h1 : x.f0 ≠ 1) :
    Rs.held (doR s.abs x).2.2.2 = Rs.held s.abs + (if x.f0 = 0 ∧ (doR s.abs x).2.2.1 = 0 then (x.f1.f6.length : Int) else 0) - (doR s.abs x).1.bytes.length ∧ (x.f0 ≠ 0 → (doR s.abs x).2.2.1 = 0) ∧ (x.f0 = 0 → (doR s.abs x).1 = noMs) ∧
    (x.f0 = 0 → (doR s.abs x).2.2.1 = 0 → x.f1.f1.toNat < s.next.length ∧ 0 < x.f1.f6.length) := by
  by_cases h0 : x.f0 = 0
  · have e : doR s.abs x = (noMs, true, (Rs.put s.abs (pcOf x.f1)).2, (Rs.put s.abs (pcOf x.f1)).1) := by unfold doR; rw [if_pos h0]
    rw [e]
    refine ⟨?_, fun h => absurd h0 h, fun _ => rfl, fun _ hc => ?_⟩
    · by_cases hc : (Rs.put s.abs (pcOf x.f1)).2 = 0
      · rw [if_pos ⟨h0, hc⟩]
        show Rs.held (Rs.put s.abs (pcOf x.f1)).1 = _ + _ - (0 : Int)
        rw [held_put hok hL hq.1.1.1 hq.1.1.2 hc]
        show _ + (x.f1.f6.length : Int) = _
        omega
      · rw [if_neg (fun h => hc h.2)]
        show Rs.held (Rs.put s.abs (pcOf x.f1)).1 = _ + _ - (0 : Int)
        rw [Rs.put_refused hc]
        omega
    · obtain ⟨a1, a2, _, _⟩ := Rs.put_taken hc
      have b1 : ¬ s.next.length ≤ x.f1.f1.toNat := a1
      have b2 : ¬ x.f1.f6.length = 0 := a2
      omega
  · have hn : ¬ (x.f0 = 0 ∧ (doR s.abs x).2.2.1 = 0) := fun h => h0 h.1
    rw [if_neg hn]
    by_cases h2 : x.f0 = 2
    · have e : doR s.abs x = takeR s.abs := by unfold doR takeR; rw [if_neg h0, if_neg h1, if_pos h2]; rfl
      rw [e]
      refine ⟨?_, fun _ => by unfold takeR; split <;> rfl, fun h => absurd h h0, fun h => absurd h h0⟩
      unfold takeR
      cases ht : Rs.take s.abs with
      | none => show Rs.held s.abs = _ + 0 - (0 : Int); omega
      | some p =>
        obtain ⟨m, st⟩ := p
        have := (Rs.take_held ht).1
        show Rs.held st = _ + 0 - (m.bytes.length : Int)
        omega
    · have e : doR s.abs x = (noMs, true, 0, s.abs) := by unfold doR; rw [if_neg h0, if_neg h1, if_neg h2]
      rw [e]
      exact ⟨by show Rs.held s.abs = _ + 0 - (0 : Int); omega, fun _ => rfl, fun h => absurd h h0, fun h => absurd h h0⟩
theorem opBytes_take {l : List S38} {m : Nat} (hm : m < l.length) : opBytes (l.take (m + 1)) = opBytes (l.take m) + l[m].f1.f6.length := by
  unfold opBytes
  rw [List.take_succ_eq_append_getElem hm, List.map_append, List.sum_append]
  simp
theorem opBytes_nonneg : ∀ (l : List S38), 0 ≤ opBytes l
  | [] => by simp [opBytes]
  | x :: l => by
    have := opBytes_nonneg l
    simp only [opBytes, List.map_cons, List.sum_cons] at *
    omega
theorem opBytes_le {l : List S38} (m : Nat) : opBytes (l.take m) ≤ opBytes l := by
  have h : opBytes l = opBytes (l.take m) + opBytes (l.drop m) := by
    unfold opBytes
    rw [← List.sum_append, ← List.map_append, List.take_append_drop]
  have := opBytes_nonneg (l.drop m)
  omega
theorem opBytes_mem : ∀ {l : List S38} {x : S38}, x ∈ l → (x.f1.f6.length : Int) ≤ opBytes l
  | y :: l, x, h => by
    have := opBytes_nonneg l
    have e : opBytes (y :: l) = y.f1.f6.length + opBytes l := by simp [opBytes]
    rcases List.mem_cons.1 h with rfl | h
    · omega
    · have := opBytes_mem h
      omega
theorem opSkips_nonneg : ∀ (l : List S38), 0 ≤ opSkips l
  | [] => by simp [opSkips]
  | x :: l => by
    have := opSkips_nonneg l
    simp only [opSkips, List.map_cons, List.sum_cons] at *
    omega
theorem opSkips_mem : ∀ {l : List S38} {x : S38}, x ∈ l → (x.f2.f1.length : Int) ≤ opSkips l
  | y :: l, x, h => by
    have := opSkips_nonneg l
    have e : opSkips (y :: l) = y.f2.f1.length + opSkips l := by simp [opSkips]
    rcases List.mem_cons.1 h with rfl | h
    · omega
    · have := opSkips_mem h
      omega
set_option maxRecDepth 100000 in
set_option maxHeartbeats 8000000 in
theorem held_walk (n : Int) (A : Option Addr) (c : Nat) (l : List S38) (w : World) (_hn : (Lit.int .i64 n).wf = true) (hC : Kd.C k38 w A l.length l) (hc : l.length ≤ c) (hq : ∀ x ∈ l, Q38 x) : Calls Try.prog 3 #[.int .i64 n, .slice A l.length c] w (Same0 (.bool true) w) := by
  obtain ⟨r, hrr, hv⟩ := vast_any A c l w hC hc
  have HV := Lib.hid hv
  clear hv
  cases r with
  | true =>
    go_enter Try.func3, Try.ntmps3
    go_wp2_with (first
      | (go_at_call 26; refine HV.out.mono ?_; rintro e w1 ⟨rfl, hf1⟩)
      | (go_at_call 27; refine (works_any _).mono ?_; rintro e w2 ⟨rfl, hf2⟩))
    go_ret
    exact ⟨rfl, (Fr.trans (S := fun _ => False) (by repeat (first | (with_reducible exact Fr.refl _ _) | (with_reducible refine Fr.drewN ?_ _) | (with_reducible refine Fr.drew ?_) | (with_reducible refine Fr.alloc ?_ _))) hf1).trans hf2⟩
  | false =>
    obtain ⟨h80, hbs, hsks⟩ := hrr rfl
    clear hrr
    by_cases hn : n < 1 ∨ 16 < n
    · go_enter Try.func3, Try.ntmps3
      go_wp2_with (first
        | (go_at_call 26; refine HV.out.mono ?_; rintro e w1 ⟨rfl, hf1⟩)
        | (go_at_call 28; refine (new_bad n _ hn).mono ?_; rintro e w2 ⟨rfl, hf2⟩)
        | (go_at_call 27; refine (works_any _).mono ?_; rintro e w3 ⟨rfl, hf3⟩))
      go_ret
      exact ⟨rfl, ((Fr.trans (S := fun _ => False) (by repeat (first | (with_reducible exact Fr.refl _ _) | (with_reducible refine Fr.drewN ?_ _) | (with_reducible refine Fr.drew ?_) | (with_reducible refine Fr.alloc ?_ _))) hf1).trans hf2).trans hf3⟩
    · obtain ⟨n, rfl⟩ := Int.eq_ofNat_of_zero_le (show 0 ≤ n by omega)
      have hn1 : 1 ≤ n := by omega
      have hn2 : n ≤ 16 := by omega
      clear hn
      go_enter Try.func3, Try.ntmps3
      go_wp2_with (first
        | (go_at_call 26; refine HV.out.mono ?_; rintro e w1 ⟨rfl, hf1⟩)
        | (go_at_call 28; refine (new_good n _ hn1 hn2).mono ?_; rintro e w2 ⟨g, mb, nb, rfl, hr0, hf2, hft0⟩))
      have hF0 : Fr (fun _ => False) w w2 := (Fr.trans (S := fun _ => False) (by repeat (first | (with_reducible exact Fr.refl _ _) | (with_reducible refine Fr.drewN ?_ _) | (with_reducible refine Fr.drew ?_) | (with_reducible refine Fr.alloc ?_ _))) hf1).trans hf2
      have hft : ∀ k, Foot g (newGs mb nb n) k → w.heap.size ≤ k := fun k hk => Nat.le_trans hf1.size (hft0 k hk)
      clear hf1 hf2 hft0
      go_loopg [7, 8] l.length (fun k v7 v8 wr => ∃ (m : Nat) (s : Gs), v7 = .int .i64 (Rs.held s.abs) ∧ v8 = .int .i64 m ∧ m ≤ l.length ∧ k = l.length - m ∧ RsAt wr g s (Rs.held s.abs) ∧ Fr (fun _ => False) w wr ∧ (∀ k, Foot g s k → w.heap.size ≤ k) ∧
        (∀ y ∈ s.L, y.p.bytes.length ≤ 100000) ∧ s.turns ≤ m ∧ s.next.length = n ∧ Rs.held s.abs ≤ opBytes (l.take m))
      case atStart => exact ⟨0, newGs mb nb n, by rw [held_new], rfl, Nat.zero_le _, rfl, by rw [held_new]; exact hr0, hF0, hft, by simp [newGs], by simp [newGs], by simp [newGs], by rw [held_new]; exact opBytes_nonneg _⟩
      case round =>
        obtain ⟨m, s, rfl, rfl, hm, hk, hR, hF, hft1, hlim, htu, hnl, hhl⟩ := hrel
        have h0 := held_nonneg s.abs
        have hb1 := opBytes_le (l := l) m
        have HK := Lib.hid hk
        have HNL := Lib.hid hnl
        clear hk hnl
        by_cases hlt : m < l.length
        · have hd1 : decide ((m : Int) < l.length) = true := decide_eq_true (by omega)
          obtain ⟨ad, A7, A9, c7, c9, rfl, hat, q1, q2, q3, q4⟩ := op_at hC m hlt
          have hbt := opBytes_take hlt
          have hbl := opBytes_le (l := l) (m + 1)
          have hxm : l[m] ∈ l := List.getElem_mem hlt
          have hqx := hq _ hxm
          have hl1 := opBytes_mem hxm
          have hl2 := opSkips_mem hxm
          have HBT := Lib.hid hbt
          generalize l[m] = x at *
          clear hbt
          have hbel : Below w.heap.size w wr := hF.below (Nat.le_refl _) (fun _ h => h.elim)
          have hat1 := hat.below hbel
          obtain ⟨e0, e1, e2, e3, e4, e5, e6, e7, e8, e9⟩ := hat1
          by_cases h1 : x.f0 = 1
          · have b1 : (x.f0 == 1) = true := beq_iff_eq.2 h1
            have HX := Lib.hid h1
            clear h1
            go_wp2_with fail
            go_roundg (l.length - (m + 1))
            case measure => rw [HK.out]; omega
            case rel => exact ⟨m + 1, s, rfl, rfl, hlt, rfl, hR.fr0 (by repeat (first | (with_reducible exact Fr.refl _ _) | (with_reducible refine Fr.drewN ?_ _) | (with_reducible refine Fr.drew ?_) | (with_reducible refine Fr.alloc ?_ _))), hF.trans (by repeat (first | (with_reducible exact Fr.refl _ _) | (with_reducible refine Fr.drewN ?_ _) | (with_reducible refine Fr.drew ?_) | (with_reducible refine Fr.alloc ?_ _))), hft1, hlim, by omega, HNL.out, by rw [HBT.out]; omega⟩
          · have b1 : (x.f0 == 1) = false := beq_eq_false_iff_ne.2 h1
            have hin := op_in q1 q2 q3 q4 hqx (by omega) (by omega) hF hft1
            have hcall := does_any g s x A7 A9 c7 c9 wr hR hlim (by omega) (by omega) hin
            have hdo := doR_held hR.ok ⟨by omega, hlim⟩ hqx h1
            have HCALL := Lib.hid hcall
            have HDO := Lib.hid hdo
            have HX := Lib.hid h1
            clear hcall hdo h1 hin q1 q2 q3 q4
            go_wp2_with fail
            go_at_call 29
            refine HCALL.out.mono ?_
            clear HCALL
            rintro e w3 ⟨A', c', s', rfl, hu, hab, hbin, hle, hfar, hnx, htu', hl'⟩
            obtain ⟨hF3, hft3⟩ := hu.out hF hft1
            have hR3 := hu.at_
            obtain ⟨hbk, hbks⟩ := (hat.below (hF3.below (Nat.le_refl _) (fun _ h => h.elim))).lts
            obtain ⟨e0', e1', e2', e3', e4', e5', e6', e7', e8', e9'⟩ := hat.below (hF3.below (Nat.le_refl _) (fun _ h => h.elim))
            obtain ⟨d1, d2, d3, d4⟩ := HDO.out
            rw [← hab] at d1
            clear HDO hab hfar hbin e0 e1 e2 e3 e4 e5 e6 e7 e8 e9 e1' e3' e4' e5' e6' e8' e9'
            generalize doR s.abs x = r at *
            obtain ⟨mm, is, code, st⟩ := r
            dsimp only at *
            have HNX := Lib.hid hnx
            have HL' := Lib.hid hl'
            have hs1 : s'.turns ≤ ((m + 1 : Nat) : Int) := by omega
            clear hnx hl' htu' hlim
            by_cases h0' : x.f0 = 0
            · obtain rfl : mm = noMs := d3 h0'
              have b0 : (x.f0 == 0) = true := beq_iff_eq.2 h0'
              simp only [noMs, List.length_nil] at *
              by_cases hcd : code = 0
              · subst hcd
                obtain ⟨d5, d6⟩ := d4 h0' rfl
                rw [if_pos ⟨h0', rfl⟩] at d1
                have e : Rs.held s'.abs = Rs.held s.abs + x.f1.f6.length := by omega
                rw [e] at hR3
                have hst : decide ((n : Int) ≤ x.f1.f1) = false := decide_eq_false (by have := HNL.out; have := hqx.1.2.1.1; omega)
                have hln : ((x.f1.f6.length : Int) == 0) = false := beq_eq_false_iff_ne.2 (by omega)
                have hs0 := hqx.1.2.1.1
                have hs2 := hqx.1.2.1.2
                have E := Lib.hid e
                clear d1 d2 d3 d4 d5 h0' e
                go_wp2_with (go_at_call 30; refine (held_any (hR3.fr0 (by repeat (first | (with_reducible exact Fr.refl _ _) | (with_reducible refine Fr.drewN ?_ _) | (with_reducible refine Fr.drew ?_) | (with_reducible refine Fr.alloc ?_ _))))).mono ?_; rintro e w4 ⟨rfl, hf4⟩; obtain ⟨e0, e1, e2, e3, e4, e5, e6, e7, e8, e9⟩ := hat.below ((Fr.trans (hF3.alloc _) hf4).below (Nat.le_refl _) (fun _ h => h.elim)); clear e1 e3 e4 e5 e6 e8 e9)
                go_roundg (l.length - (m + 1))
                case measure => rw [HK.out]; omega
                case rel => exact ⟨m + 1, s', by rw [E.out], rfl, hlt, rfl, hu.at_.fr0 (Fr.trans (by repeat (first | (with_reducible exact Fr.refl _ _) | (with_reducible refine Fr.drewN ?_ _) | (with_reducible refine Fr.drew ?_) | (with_reducible refine Fr.alloc ?_ _))) hf4), (hF3.alloc _).trans hf4, hft3, HL'.out, hs1, by rw [HNX.out, HNL.out], by rw [HBT.out, E.out]; omega⟩
              · have bc : (code == 0) = false := beq_eq_false_iff_ne.2 hcd
                rw [if_neg (fun h => hcd h.2)] at d1
                have e : Rs.held s'.abs = Rs.held s.abs := by omega
                rw [e] at hR3
                have E := Lib.hid e
                clear d1 d2 d3 d4 hcd h0' e
                go_wp2_with (go_at_call 30; refine (held_any (hR3.fr0 (by repeat (first | (with_reducible exact Fr.refl _ _) | (with_reducible refine Fr.drewN ?_ _) | (with_reducible refine Fr.drew ?_) | (with_reducible refine Fr.alloc ?_ _))))).mono ?_; rintro e w4 ⟨rfl, hf4⟩; obtain ⟨e0, e1, e2, e3, e4, e5, e6, e7, e8, e9⟩ := hat.below ((Fr.trans (hF3.alloc _) hf4).below (Nat.le_refl _) (fun _ h => h.elim)); clear e1 e3 e4 e5 e6 e8 e9)
                go_roundg (l.length - (m + 1))
                case measure => rw [HK.out]; omega
                case rel => exact ⟨m + 1, s', by rw [E.out], rfl, hlt, rfl, hu.at_.fr0 (Fr.trans (by repeat (first | (with_reducible exact Fr.refl _ _) | (with_reducible refine Fr.drewN ?_ _) | (with_reducible refine Fr.drew ?_) | (with_reducible refine Fr.alloc ?_ _))) hf4), (hF3.alloc _).trans hf4, hft3, HL'.out, hs1, by rw [HNX.out, HNL.out], by rw [HBT.out, E.out]; omega⟩
            · have b0 : (x.f0 == 0) = false := beq_eq_false_iff_ne.2 h0'
              obtain rfl : code = 0 := d2 h0'
              rw [if_neg (fun h => h0' h.1)] at d1
              have e : Rs.held s'.abs = Rs.held s.abs - mm.bytes.length := by omega
              rw [e] at hR3
              have h0s := held_nonneg s'.abs
              have E := Lib.hid e
              have hml : (mm.bytes.length : Int) ≤ 1000000 := by omega
              clear d1 d2 d3 d4 h0' e
              go_wp2_with (go_at_call 30; refine (held_any (hR3.fr0 (by repeat (first | (with_reducible exact Fr.refl _ _) | (with_reducible refine Fr.drewN ?_ _) | (with_reducible refine Fr.drew ?_) | (with_reducible refine Fr.alloc ?_ _))))).mono ?_; rintro e w4 ⟨rfl, hf4⟩; obtain ⟨e0, e1, e2, e3, e4, e5, e6, e7, e8, e9⟩ := hat.below ((Fr.trans (hF3.alloc _) hf4).below (Nat.le_refl _) (fun _ h => h.elim)); clear e1 e3 e4 e5 e6 e8 e9)
              go_roundg (l.length - (m + 1))
              case measure => rw [HK.out]; omega
              case rel => exact ⟨m + 1, s', by rw [E.out], rfl, hlt, rfl, hu.at_.fr0 (Fr.trans (by repeat (first | (with_reducible exact Fr.refl _ _) | (with_reducible refine Fr.drewN ?_ _) | (with_reducible refine Fr.drew ?_) | (with_reducible refine Fr.alloc ?_ _))) hf4), (hF3.alloc _).trans hf4, hft3, HL'.out, hs1, by rw [HNX.out, HNL.out], by rw [HBT.out, E.out]; omega⟩
        · have hd1 : decide ((m : Int) < l.length) = false := decide_eq_false (by omega)
          go_wp2_with (go_at_call 27; refine (works_any _).mono ?_; rintro e w4 ⟨rfl, hf4⟩)
          go_ret
          exact ⟨rfl, hF.trans hf4⟩
end Go.Proofs.Ytpkbckkminmdmaa
