/- Contracts of slices.Clone at []byte and of (*Reasm).Put. -/
import Derived.Test.YtpkbckkminmdmaaRsW4
namespace Go.Proofs.Ytpkbckkminmdmaa
open Go.RowKit Go.Proofs.YtpkbckkminmdmaaW.PrintWords
attribute [local go_sem] alloc_drewN setCell_drewN isMap_alloc isMap_drew isMap_drewN isMap_setCell cell_setMap frozen_setMap setMap_drew setMap_drewN size_setMap field_piece0 field_data1 field_data3 field_data6

def ClonePost (n : Nat) (bs : List Int) (w : World) (e : Ending) (w' : World) : Prop :=
  ∃ g cap, e = .returned (.slice (some ⟨g, 0, none⟩) n cap) ∧ Byt w' g cap bs ∧ Fr (fun _ => False) w w' ∧ w.heap.size ≤ g ∧ g < w'.heap.size
set_option maxRecDepth 100000 in
theorem clone_any (ad : Addr) (n c : Nat) (bs : List Int) (w : World) (hcells : ∀ j u, (nums .u8 bs)[j]? = some u → w.cell? (ad.add j) = some u) (hlt : ad.block < w.heap.size) (hl : bs.length = n) (hn : 0 < n) (hmax : n ≤ 1000000) :
    Calls Try.prog 103 #[.slice (some ad) n c] w (ClonePost n bs w) := by
  obtain ⟨i8, hi8, hz8, hsz8, hby8⟩ := info_parts info_u8
  have hnil : ∀ W : World, Sem.run Try.prog (binOp .eql 31 (.slice (some ad) n c) (.slice none 0 0)) W = .ok (.bool false) W := fun W => Lib.run_eql_slice_nil W _ _ _ _ _ _ _ Try.underlying31
  have hown : (w.alloc (.cells #[] 5)).ownsRow w.heap.size 5 1 (.slice (some ⟨w.heap.size, 0, none⟩) 0 0) 0 [] := World.ownsRow_made w #[] 0 (Nat.le_refl _) (by simp [maxLen]) rfl
  go_enter Try.func103, Try.ntmps103
  go_wp2_with (at_builtin; refine wpList_append_lies _ rfl (.tmp 5) (.tmp 6) 31 rfl w.heap.size 5 i8 (.int .u8 0) 1 1 Try.underlying31 hi8 hz8 hsz8 hby8 rfl (by decide) (.slice (some ⟨w.heap.size, 0, none⟩) 0 0) 0 [] rfl hown ad n c (nums .u8 bs) rfl (by simp [nums, hl]) (fun j u hu => (Fr.cell ((Fr.refl (fun _ => False) w).alloc _) (by rw [block_of_add]; exact hlt) (fun h => h)).trans (hcells j u hu)) (nums_one _ _) hn (by simp only [maxLen]; omega) (by omega) (by simp) _ rfl ?_; intro g1 cap1 w1 hown1 hgrow1 hat1 hlt1)
  go_ret
  have hb := hown1.lt g1 rfl
  refine ⟨g1, cap1, rfl, ?_, ?_, hb.1, hlt1⟩
  · have h1 := hown1
    rw [Nat.zero_add, List.nil_append] at h1
    refine ⟨by simp [nums], ?_⟩
    rw [hl]
    rcases h1.2 with ⟨hv, _⟩ | ⟨g', cap', cur, hv, _, r⟩
    · cases hv
    · exact .inr ⟨g', cap', cur, hv, Nat.zero_le _, r⟩
  · exact ((Fr.refl _ _).alloc _).grown hgrow1 (fun k hk => .inr (by
      have : w.heap.size = k := by simpa [Value.ownBlock] using hk
      omega))

def dcells (d : Rs.Pc) (A : Option Addr) (c : Nat) : Array Value := #[.int .u32 d.tsn, .int .u16 d.stream, .int .u16 d.ssn, .bool d.un, .bool d.fi, .bool d.la, .slice A d.bytes.length c]
def PutPost (g : Nat) (s : Gs) (h : Int) (d : Rs.Pc) (w : World) (e : Ending) (w' : World) : Prop :=
  e = .returned (.int .i64 (Rs.put s.abs d).2) ∧ ∃ s' h', Upd g s s' h' w w' ∧ s'.abs = (Rs.put s.abs d).1 ∧ s'.next.length = s.next.length ∧ s'.turns ≤ s.turns + 1 ∧
    h' = (if (Rs.put s.abs d).2 = 0 then h + d.bytes.length else h) ∧ (∀ x ∈ s'.L, x.p.bytes.length ≤ 100000)
theorem PutPost.same {g : Nat} {s : Gs} {h : Int} {d : Rs.Pc} {w w' : World} {code : Int} (hr : RsAt w g s h) (hlim : ∀ x ∈ s.L, x.p.bytes.length ≤ 100000) (hp : Rs.put s.abs d = (s.abs, code)) (hc : code ≠ 0) (hf : Fr (fun _ => False) w w') : PutPost g s h d w (.returned (.int .i64 code)) w' := by
  refine ⟨by rw [hp], s, h, (Upd.refl hr).fr0 hf, by rw [hp], rfl, by omega, by rw [hp, if_neg hc], hlim⟩

set_option maxRecDepth 100000 in
set_option maxHeartbeats 4000000 in
/-- A piece that is refused. -/
theorem put_no (g : Nat) (s : Gs) (h : Int) (d : Rs.Pc) (A : Option Addr) (c : Nat) (w : World) (hr : RsAt w g s h) (hlim : ∀ x ∈ s.L, x.p.bytes.length ≤ 100000) (h0 : 0 ≤ d.stream) (h1 : d.stream < 65536) (hn : d.bytes.length ≤ 100000)
    (hno : (Rs.put s.abs d).2 ≠ 0) :
    Calls Try.prog 42 #[.pointer (some ⟨g, 0, none⟩), .agg (dcells d A c)] w (PutPost g s h d w) := by
  have hg := hr.blk.lt
  have hgs := hr.blk.lts
  have cg := hr.blk.cell
  have hm := hr.inn.map
  have hml := hm.lt
  have hms := hm.lts
  have hn16 := hr.ok.nxl
  unfold gcells at cg
  unfold dcells
  by_cases hst : s.next.length ≤ d.stream.toNat
  · have hp : Rs.put s.abs d = (s.abs, 4) := Rs.put_stream hst
    have HP := Lib.hid hp
    have hst' : (s.next.length : Int) ≤ d.stream := by omega
    clear hp hno
    go_enter Try.func42, Try.ntmps42
    go_wp2_with fail
    go_quiet (fail)
    go_wp2_with fail
    go_ret
    exact PutPost.same hr hlim HP.out (by decide) (by repeat (first | (with_reducible exact Fr.refl _ _) | (with_reducible refine Fr.drewN ?_ _) | (with_reducible refine Fr.drew ?_) | (with_reducible refine Fr.alloc ?_ _)))
  · have hst' : d.stream < (s.next.length : Int) := by omega
    by_cases hby : d.bytes.length = 0
    · have hp : Rs.put s.abs d = (s.abs, 5) := Rs.put_size hst hby
      have HP := Lib.hid hp
      have hb1 : ((d.bytes.length : Int) == 0) = true := by rw [hby]; rfl
      clear hp hno hby
      go_enter Try.func42, Try.ntmps42
      go_wp2_with fail
      go_quiet (fail)
      go_wp2_with fail
      go_ret
      exact PutPost.same hr hlim HP.out (by decide) (by repeat (first | (with_reducible exact Fr.refl _ _) | (with_reducible refine Fr.drewN ?_ _) | (with_reducible refine Fr.drew ?_) | (with_reducible refine Fr.alloc ?_ _)))
    · have hb1 : ((d.bytes.length : Int) == 0) = false := by rw [beq_eq_false_iff_ne]; omega
      have hpos : 0 < d.bytes.length := by omega
      have hby' := Lib.hid hby
      clear hby
      have cn := hr.inn.nxt.cell d.stream.toNat
      rw [next_cell h0 hst'] at cn
      have ln := hr.inn.nxt.lt
      have lns := hr.inn.nxt.lts
      cases hl : (!d.un && Rs.less16 d.ssn (Rs.nextOf s.abs d.stream)) with
      | true =>
        have hp : Rs.put s.abs d = (s.abs, 1) := Rs.put_late hst hby'.out hl
        have HP := Lib.hid hp
        simp only [Bool.and_eq_true, Bool.not_eq_true'] at hl
        obtain ⟨hun, hl⟩ := hl
        clear hp hno
        go_enter Try.func42, Try.ntmps42
        go_wp2_with fail
        go_quiet (fail)
        go_wp2_with fail
        go_quiet ((go_at_call 102; exact quiet_add_same (less16_any _ _ _)))
        go_wp2_with fail
        go_ret
        exact PutPost.same hr hlim HP.out (by decide) (by repeat (first | (with_reducible exact Fr.refl _ _) | (with_reducible refine Fr.drewN ?_ _) | (with_reducible refine Fr.drew ?_) | (with_reducible refine Fr.alloc ?_ _)))
      | false =>
        cases hget : Rs.get s.abs.L d.tsn with
        | none =>
          refine absurd ?_ hno
          cases hun : d.un with
          | true =>
            rw [Rs.put_un hst hby'.out hget hun]
            split <;> rfl
          | false => rw [Rs.put_ord hst hby'.out hl hget hun]
        | some x =>
          have hp : Rs.put s.abs d = (s.abs, 1) := Rs.put_there hst hby'.out hl (by rw [hget]; rfl)
          have HP := Lib.hid hp
          clear hp hno
          rcases look_cases s.mb s.clk s.L d.tsn with ⟨hn, _⟩ | ⟨y, hy, _, _, _, hrun⟩
          · exact absurd (hn.symm.trans hget) (by simp)
          clear hget
          unfold pcells at hrun
          cases hun : d.un with
          | true =>
            rw [hun] at hl
            go_enter Try.func42, Try.ntmps42
            go_wp2_with fail
            go_quiet (fail)
            go_wp2_with fail
            go_quiet (fail)
            go_wp2_with fail
            go_region
            all_goals
              go_wp2_with fail
              go_ret
              exact PutPost.same hr hlim HP.out (by decide) (by repeat (first | (with_reducible exact Fr.refl _ _) | (with_reducible refine Fr.drewN ?_ _) | (with_reducible refine Fr.drew ?_) | (with_reducible refine Fr.alloc ?_ _)))
          | false =>
            have hl2 : Rs.less16 d.ssn (Rs.nextOf s.abs d.stream) = false := by
              rw [hun] at hl
              simpa using hl
            clear hl
            go_enter Try.func42, Try.ntmps42
            go_wp2_with fail
            go_quiet (fail)
            go_wp2_with fail
            go_quiet ((go_at_call 102; exact quiet_add_same (less16_any _ _ _)))
            go_wp2_with fail
            go_region
            all_goals
              go_wp2_with fail
              go_ret
              exact PutPost.same hr hlim HP.out (by decide) (by repeat (first | (with_reducible exact Fr.refl _ _) | (with_reducible refine Fr.drewN ?_ _) | (with_reducible refine Fr.drew ?_) | (with_reducible refine Fr.alloc ?_ _)))
end Go.Proofs.Ytpkbckkminmdmaa
