/- Contract of (*Reasm).parts. -/
import Derived.Test.YtpkbckkminmdmaaRsW8
import Derived.Test.YtpkbckkminmdmaaRsPure4
namespace Go.Proofs.Ytpkbckkminmdmaa
open Go.RowKit Go.Proofs.YtpkbckkminmdmaaW.PrintWords
attribute [local go_sem] alloc_drewN setCell_drewN isMap_alloc isMap_drew isMap_drewN isMap_setCell cell_setMap frozen_setMap setMap_drew setMap_drewN size_setMap field_piece0 field_data1 field_data3 field_data6

def keepP (L : List Rs.Pc) (cum : Int) (p : Rs.Pc) : Bool := (p.tsn != cum && !Rs.less32 p.tsn cum) || (Rs.whole L p).isSome
def goneCells (gone : List Pe) : List Value := gone.flatMap fun e => (pcells e).toList
/-- The first loop of 'parts'. -/
structure PL (s : Gs) (w : World) (cum : Int) (r : Nat) (seen : Array Nat) (last : Nat) (gone : List Pe) (v : Value) (wr : World) : Prop where
  it : IsIter wr r s.mb s.clk seen last
  cl : s.clk ≤ last
  fr : Fr (fun _ => False) w wr
  new : w.heap.size ≤ r
  row : wr.ownsRow w.heap.size 151 8 v gone.length (goneCells gone)
  mem : ∀ e ∈ gone, e ∈ s.L ∧ keepP (s.L.map (·.p)) cum e.p = false ∧ e.born ∈ seen
  all : ∀ e ∈ s.L, e.born ∈ seen → keepP (s.L.map (·.p)) cum e.p = false → e ∈ gone
  nd : (gone.map (·.born)).Nodup
  len : gone.length + left s.L seen ≤ s.L.length
theorem PL.skip {s : Gs} {w : World} {cum : Int} {r : Nat} {seen : Array Nat} {last : Nat} {gone : List Pe} {v : Value} {wr w1 : World} (h : PL s w cum r seen last gone v wr) (hok : s.Ok) {e : Pe} (he : e ∈ s.L) (hns : e.born ∉ seen) (hk : keepP (s.L.map (·.p)) cum e.p = true)
    (hit : IsIter w1 r s.mb s.clk (seen.push e.born) s.clk) (hf : Fr (fun _ => False) w w1) (hrow : w1.ownsRow w.heap.size 151 8 v gone.length (goneCells gone)) : PL s w cum r (seen.push e.born) s.clk gone v w1 :=
  ⟨hit, Nat.le_refl _, hf, h.new, hrow, fun x hx => ⟨(h.mem x hx).1, (h.mem x hx).2.1, Array.mem_push.2 (.inl (h.mem x hx).2.2)⟩, fun x hx hxs hxk => by
    rcases Array.mem_push.1 hxs with hxs | hxs
    · exact h.all x hx hxs hxk
    · have := Best.skip.born_uniq hok.born hx he hxs
      subst this
      exact absurd hxk (by rw [hk]; simp), h.nd, Nat.le_trans (Nat.add_le_add_left (Nat.le_of_lt (left_push s.L seen e he hns)) _) h.len⟩
theorem PL.push {s : Gs} {w : World} {cum : Int} {r : Nat} {seen : Array Nat} {last : Nat} {gone : List Pe} {v v' : Value} {wr w1 : World} (h : PL s w cum r seen last gone v wr) (hok : s.Ok) {e : Pe} (he : e ∈ s.L) (hns : e.born ∉ seen) (hk : keepP (s.L.map (·.p)) cum e.p = false)
    (hit : IsIter w1 r s.mb s.clk (seen.push e.born) s.clk) (hf : Fr (fun _ => False) w w1) (hrow : w1.ownsRow w.heap.size 151 8 v' (gone.length + 1) (goneCells gone ++ (pcells e).toList)) : PL s w cum r (seen.push e.born) s.clk (gone ++ [e]) v' w1 := by
  refine ⟨hit, Nat.le_refl _, hf, h.new, ?_, fun x hx => ?_, fun x hx hxs hxk => ?_, ?_, ?_⟩
  · have e1 : goneCells (gone ++ [e]) = goneCells gone ++ (pcells e).toList := by simp [goneCells]
    rw [e1, List.length_append]
    exact hrow
  · rcases List.mem_append.1 hx with hx | hx
    · exact ⟨(h.mem x hx).1, (h.mem x hx).2.1, Array.mem_push.2 (.inl (h.mem x hx).2.2)⟩
    · rw [List.mem_singleton.1 hx]
      exact ⟨he, hk, Array.mem_push.2 (.inr rfl)⟩
  · rcases Array.mem_push.1 hxs with hxs | hxs
    · exact List.mem_append_left _ (h.all x hx hxs hxk)
    · have := Best.skip.born_uniq hok.born hx he hxs
      subst this
      simp
  · rw [List.map_append, List.nodup_append]
    refine ⟨h.nd, by simp, fun a ha b hb ee => ?_⟩
    rw [show List.map (fun x => x.born) [e] = [e.born] from rfl, List.mem_singleton] at hb
    obtain ⟨x, hx, hxe⟩ := List.mem_map.1 ha
    exact hns (by rw [← hb, ← ee, ← hxe]; exact (h.mem x hx).2.2)
  · have := left_push s.L seen e he hns
    have := h.len
    rw [List.length_append]
    simp
    omega

theorem gone_get : ∀ (gone : List Pe) (m j : Nat) (h : m < gone.length), j < 8 → (goneCells gone)[m * 8 + j]? = (pcells (gone[m]))[j]?
  | [], m, j, h, _ => by cases h
  | e :: l, 0, j, h, hj => by
    unfold goneCells
    rw [List.flatMap_cons, List.getElem?_append_left (by show 0 * 8 + j < 8; omega)]
    simp
  | e :: l, m + 1, j, h, hj => by
    have ih := gone_get l m j (Nat.lt_of_succ_lt_succ h) hj
    unfold goneCells at ih ⊢
    rw [List.flatMap_cons, List.getElem?_append_right (by show 8 ≤ _; omega)]
    rw [show (m + 1) * 8 + j - (pcells e).toList.length = m * 8 + j by show (m + 1) * 8 + j - 8 = _; omega]
    exact ih
/-- The row of what goes lies in memory. -/
def GoneIn (w : World) (A : Option Addr) (gone : List Pe) (base : Nat) : Prop := ∀ gg, A = some ⟨gg, 0, none⟩ → base ≤ gg ∧ gg < w.heap.size ∧ ∀ j u, (goneCells gone)[j]? = some u → w.cell? ⟨gg, j, none⟩ = some u
theorem gone_in {w : World} {v : Value} {gone : List Pe} {base : Nat} (h : w.ownsRow base 151 8 v gone.length (goneCells gone)) : ∃ A c, v = .slice A gone.length c ∧ (0 < gone.length → ∃ gg, A = some ⟨gg, 0, none⟩) ∧ GoneIn w A gone base := by
  rcases h.2 with ⟨hv, h0⟩ | ⟨gg, cap, cur, hv, hb, hh, _⟩
  · exact ⟨none, 0, by rw [hv, h0], fun hp => by omega, fun gg hg => by cases hg⟩
  · refine ⟨some ⟨gg, 0, none⟩, cap, hv, fun _ => ⟨gg, rfl⟩, fun g' hg => ?_⟩
    injection hg with hg
    injection hg with hg
    subst hg
    refine ⟨hb, blk_lt hh, fun j u hu => ?_⟩
    have := World.ownsRow.cells h (by rw [hv]; rfl) j u hu
    rwa [add_at, Nat.zero_add] at this
theorem GoneIn.fr {w w' : World} {A : Option Addr} {gone : List Pe} {base : Nat} {S : Nat → Prop} (h : GoneIn w A gone base) (hf : Fr S w w') (hS : ∀ k, S k → k < base) : GoneIn w' A gone base := fun gg hg => by
  obtain ⟨h1, h2, h3⟩ := h gg hg
  exact ⟨h1, Nat.lt_of_lt_of_le h2 hf.size, fun j u hu => (hf.cell h2 (fun hs => by have := hS _ hs; simp at this; omega)).trans (h3 j u hu)⟩
/-- Some pieces are dropped. -/
def dropsGs (s : Gs) (l : List Pe) : Gs := { s with L := dropP s.L l }
theorem dropsGs_snoc (s : Gs) (l : List Pe) (x : Pe) : dropGs (dropsGs s l) x.p.tsn = dropsGs s (l ++ [x]) := by
  unfold dropsGs dropGs
  rw [dropP_snoc]
theorem dropsGs_foot {g : Nat} {s : Gs} {l : List Pe} {k : Nat} (h : Foot g (dropsGs s l) k) : Foot g s k := by
  rcases h with e | e | e | e | ⟨x, hx, e⟩ | e
  · exact .inl e
  · exact .inr (.inl e)
  · exact .inr (.inr (.inl e))
  · exact .inr (.inr (.inr (.inl e)))
  · exact .inr (.inr (.inr (.inr (.inl ⟨x, (List.mem_filter.1 hx).1, e⟩))))
  · exact .inr (.inr (.inr (.inr (.inr e))))
theorem held_drop {s : Gs} (hok : s.Ok) {d : Pe} (hd : d ∈ s.L) : Rs.held (dropGs s d.p.tsn).abs = Rs.held s.abs - d.p.bytes.length := by
  have hn : ((s.L.map (·.p)).map (·.tsn)).Nodup := by rw [List.map_map]; exact hok.keys
  have h1 := Rs.bytesOf_drop hn (List.mem_map_of_mem (f := (·.p)) hd)
  rw [Rs.held_eq, Rs.held_eq]
  have e : (dropGs s d.p.tsn).abs.L = (s.L.map (·.p)).filter (fun x => x.tsn != d.p.tsn) := by
    unfold dropGs Gs.abs
    simp only
    rw [List.filter_map]
    rfl
  rw [e, h1]
  show Rs.bytesOf s.abs.L - _ + Rs.bytesOfM s.abs.row = _
  omega
theorem held_mem {s : Gs} {d : Pe} (hd : d ∈ s.L) : (d.p.bytes.length : Int) ≤ Rs.held s.abs := by
  rw [Rs.held_eq]
  have h1 := Rs.bytesOf_mem (List.mem_map_of_mem (f := (·.p)) hd)
  have h2 := Rs.bytesOfM_nonneg s.abs.row
  show _ ≤ Rs.bytesOf (s.L.map (·.p)) + _
  omega
theorem held_nonneg (s : Rs.St) : 0 ≤ Rs.held s := by
  rw [Rs.held_eq]
  have h1 := Rs.bytesOf_nonneg s.L
  have h2 := Rs.bytesOfM_nonneg s.row
  omega
theorem held_drops_le (s : Gs) (l : List Pe) : Rs.held (dropsGs s l).abs ≤ Rs.held s.abs := by
  rw [Rs.held_eq, Rs.held_eq]
  have h := Rs.bytesOf_split (fun p => !(l.any fun q => q.p.tsn == p.tsn)) (s.L.map (·.p))
  have h2 := Rs.bytesOf_nonneg ((s.L.map (·.p)).filter fun x => !!(l.any fun q => q.p.tsn == x.tsn))
  have e : (dropsGs s l).abs.L = (s.L.map (·.p)).filter (fun p => !(l.any fun q => q.p.tsn == p.tsn)) := by
    unfold dropsGs Gs.abs dropP
    simp only
    rw [List.filter_map]
    rfl
  rw [e]
  show _ + Rs.bytesOfM s.abs.row ≤ Rs.bytesOf (s.L.map (·.p)) + _
  omega
theorem drop_at {g : Nat} {s : Gs} {h : Int} {d : Pe} {W : World} (hr : RsAt W g s h) (hd : d ∈ s.L) (h0 : d.p.bytes.length ≤ h) (h1 : h < 1000000000) (cs : Array Value) (hcs : cs = pcells d) :
    Calls Try.prog 142 #[.pointer (some ⟨g, 0, none⟩), .agg cs] W fun e w' => e = .returned (.tuple #[]) ∧ Upd g s (dropGs s d.p.tsn) (h - d.p.bytes.length) W w' := by
  subst hcs
  exact drop_any g s h d W hr hd h0 h1
theorem parts_abs {s : Gs} (hok : s.Ok) {cum : Int} {gone : List Pe} (hm : ∀ e ∈ gone, e ∈ s.L ∧ keepP (s.L.map (·.p)) cum e.p = false) (ha : ∀ e ∈ s.L, keepP (s.L.map (·.p)) cum e.p = false → e ∈ gone) : (dropsGs s gone).abs = { s.abs with L := Rs.parts s.abs.L cum } := by
  have e1 : dropP s.L gone = s.L.filter (fun e => keepP (s.L.map (·.p)) cum e.p) := by
    unfold dropP
    refine List.filter_congr (fun e he => ?_)
    cases hk : keepP (s.L.map (·.p)) cum e.p with
    | false =>
      have : gone.any (fun q => q.p.tsn == e.p.tsn) = true := List.any_eq_true.2 ⟨e, ha e he hk, by simp⟩
      rw [this]
      rfl
    | true =>
      have : gone.any (fun q => q.p.tsn == e.p.tsn) = false := by
        rw [List.any_eq_false]
        intro q hq hqe
        have hqe : q.p.tsn = e.p.tsn := by simpa using hqe
        have h1 := find_of_mem hok.keys (hm q hq).1
        have h2 := find_of_mem hok.keys he
        rw [hqe, h2] at h1
        injection h1 with h1
        rw [h1, (hm q hq).2] at hk
        cases hk
      rw [this]
      rfl
  unfold dropsGs Gs.abs Rs.parts
  simp only [e1, List.filter_map]
  rfl
theorem one_pcells (e : Pe) : ∀ u ∈ (pcells e).toList, u.oneCell' = true := by
  intro u hu
  simp only [pcells, List.mem_cons, List.not_mem_nil, or_false] at hu
  rcases hu with rfl | rfl | rfl | rfl | rfl | rfl | rfl | rfl <;> rfl
theorem Upd.dropsTrans {g : Nat} {s : Gs} {l : List Pe} {x : Pe} {h1 h2 : Int} {w w1 w2 : World} (a : Upd g s (dropsGs s l) h1 w w1) (b : Upd g (dropsGs s l) (dropGs (dropsGs s l) x.p.tsn) h2 w1 w2) : Upd g s (dropsGs s (l ++ [x])) h2 w w2 := by
  have := a.trans b
  rwa [dropsGs_snoc] at this

def PartsPost (g : Nat) (s : Gs) (cum : Int) (w : World) (e : Ending) (w' : World) : Prop :=
  e = .returned (.tuple #[]) ∧ ∃ s', Upd g s s' (Rs.held s'.abs) w w' ∧ s'.abs = { s.abs with L := Rs.parts s.abs.L cum } ∧ Same s s' ∧ Lim s'
theorem info_piece : (Try.prog.info? 151).map (fun i => (i.zero, i.size, i.bytes)) = some (some (.agg #[.int .u32 0, .int .u16 0, .int .u16 0, .bool false, .bool false, .bool false, .slice none 0 0, .int .i64 0]), 8, 48) := by kernel_rfl
set_option maxRecDepth 100000 in
set_option maxHeartbeats 8000000 in
theorem parts_any (g : Nat) (s : Gs) (cum : Int) (w : World) (hr : RsAt w g s (Rs.held s.abs)) (hlim : Lim s) (hh : Rs.held s.abs < 1000000000) :
    Calls Try.prog 108 #[.pointer (some ⟨g, 0, none⟩), .int .u32 cum] w (PartsPost g s cum w) := by
  have hgl := hr.blk.lt
  have cg := hr.blk.cell
  have hm := hr.inn.map
  have hml := hm.lt
  obtain ⟨ip, hip, hzp, hszp, hbyp⟩ := info_parts info_piece
  have hrange : Sem.run Try.prog (Instr.range 140 (.map (some s.mb))) w = .ok (.pointer (some ⟨w.heap.size, 0, none⟩)) (w.alloc (.mapIter (some s.mb) s.clk #[] s.clk)) := run_range_ents Try.underlying140 _ w hm
  unfold gcells at cg
  go_enter Try.func108, Try.ntmps108
  go_wp2_with fail
  go_loopg [4] (left s.L #[]) (fun k v wr => ∃ (seen : Array Nat) (last : Nat) (gone : List Pe), k = left s.L seen ∧ PL s w cum w.heap.size seen last gone v wr)
  case atStart =>
    exact ⟨#[], s.clk, [], rfl, ⟨heap_alloc_new _ _, Nat.le_refl _, (Fr.refl _ _).alloc _, Nat.le_refl _, World.ownsRow_nil _ _ _ _, fun e he => by (cases he), fun e _ he => absurd he (Array.not_mem_empty _), by simp, by simp [left, List.length_filter_le]⟩⟩
  case round =>
    obtain ⟨seen, last, gone, hk, hI⟩ := hrel
    have HK := Lib.hid hk
    clear hk hrange
    have hmr : IsMap wr s.mb (ents (s.L.map Pe.en)) s.clk := hm.fr hI.fr (fun h => h)
    have hRr := hr.fr0 hI.fr
    rcases next_cases (P := Try.prog) wr 0 w.heap.size s.mb s.clk last seen (s.L.map Pe.en) s.clk hI.it hmr (by
      intro x hx
      obtain ⟨e, he, rfl⟩ := List.mem_map.1 hx
      exact hr.ok.bornlt e he) hI.cl (by
      rw [List.map_map]
      exact hr.ok.born.imp (fun h => Nat.ne_of_lt h)) with ⟨hall, hrun⟩ | ⟨x, hx, hns, w1, hrun, hent, hit1, hf1, hz1⟩
    · have hall' : ∀ e ∈ s.L, e.born ∈ seen := fun e he => hall _ (List.mem_map_of_mem he)
      obtain ⟨A, c, rfl, hA, hG⟩ := gone_in hI.row
      have HALL := Lib.hid hall'
      have HI := Lib.hid hI
      clear hall hall'
      have hgone : gone.length ≤ 1000 := by
        have := HI.out.len
        have := hlim.L hr.ok
        omega
      have hu0 : Upd g s (dropsGs s (gone.take 0)) (Rs.held (dropsGs s (gone.take 0)).abs) w wr := by
        have e : dropsGs s (gone.take 0) = s := by unfold dropsGs; rw [List.take_zero, dropP_nil]
        rw [e]
        exact (Upd.refl hr).fr0 HI.out.fr
      go_wp2_with fail
      go_loopg [46] gone.length (fun k v w1 => ∃ m : Nat, v = .int .i64 m ∧ m ≤ gone.length ∧ k = gone.length - m ∧ Upd g s (dropsGs s (gone.take m)) (Rs.held (dropsGs s (gone.take m)).abs) w w1 ∧ GoneIn w1 A gone w.heap.size)
      case atStart => exact ⟨0, rfl, Nat.zero_le _, rfl, hu0, hG⟩
      case round =>
        obtain ⟨m, rfl, hm1, hk, hu, hG1⟩ := hrel
        have HK2 := Lib.hid hk
        have HU := Lib.hid hu
        clear hk hu
        by_cases hlt : m < gone.length
        · have hd1 : decide ((m : Int) < gone.length) = true := decide_eq_true (by omega)
          obtain ⟨gg, rfl⟩ := hA (by omega)
          obtain ⟨hgb, hgs, hc⟩ := hG1 gg rfl
          obtain ⟨x, hx⟩ : ∃ x, gone[m] = x := ⟨_, rfl⟩
          have c0 : wr.cell? ⟨gg, m * 8, none⟩ = some (.int .u32 x.p.tsn) := hc (m * 8 + 0) _ (by rw [gone_get gone m 0 hlt (by decide), hx]; rfl)
          have c1 : wr.cell? ⟨gg, m * 8 + 1, none⟩ = some (.int .u16 x.p.stream) := hc (m * 8 + 1) _ (by rw [gone_get gone m 1 hlt (by decide), hx]; rfl)
          have c2 : wr.cell? ⟨gg, m * 8 + 2, none⟩ = some (.int .u16 x.p.ssn) := hc (m * 8 + 2) _ (by rw [gone_get gone m 2 hlt (by decide), hx]; rfl)
          have c3 : wr.cell? ⟨gg, m * 8 + 3, none⟩ = some (.bool x.p.un) := hc (m * 8 + 3) _ (by rw [gone_get gone m 3 hlt (by decide), hx]; rfl)
          have c4 : wr.cell? ⟨gg, m * 8 + 4, none⟩ = some (.bool x.p.fi) := hc (m * 8 + 4) _ (by rw [gone_get gone m 4 hlt (by decide), hx]; rfl)
          have c5 : wr.cell? ⟨gg, m * 8 + 5, none⟩ = some (.bool x.p.la) := hc (m * 8 + 5) _ (by rw [gone_get gone m 5 hlt (by decide), hx]; rfl)
          have c6 : wr.cell? ⟨gg, m * 8 + 6, none⟩ = some (.slice (some ⟨x.blk, 0, none⟩) x.p.bytes.length x.cap) := hc (m * 8 + 6) _ (by rw [gone_get gone m 6 hlt (by decide), hx]; rfl)
          have c7 : wr.cell? ⟨gg, m * 8 + 7, none⟩ = some (.int .i64 x.turn) := hc (m * 8 + 7) _ (by rw [gone_get gone m 7 hlt (by decide), hx]; rfl)
          have hxg : x ∈ gone := hx ▸ List.getElem_mem hlt
          have hxL := HI.out.mem x hxg
          have htk : gone.take (m + 1) = gone.take m ++ [x] := by rw [List.take_succ_eq_append_getElem hlt, hx]
          have hxs : x ∈ (dropsGs s (gone.take m)).L := by
            refine List.mem_filter.2 ⟨hxL.1, ?_⟩
            simp only [Bool.not_eq_true', List.any_eq_false, beq_iff_eq]
            intro q hq he
            obtain ⟨i, hi, rfl⟩ := List.getElem_of_mem hq
            rw [List.length_take] at hi
            have him : i < m := by omega
            rw [List.getElem_take] at he
            have hqL := (HI.out.mem _ (List.getElem_mem (l := gone) (n := i) (by omega))).1
            have heq : gone[i] = x := by
              have h1 := find_of_mem hr.ok.keys hqL
              have h2 := find_of_mem hr.ok.keys hxL.1
              rw [he] at h1
              rw [h1] at h2
              injection h2
            have := List.pairwise_iff_getElem.1 HI.out.nd i m (by rw [List.length_map]; omega) (by rw [List.length_map]; exact hlt) him
            rw [List.getElem_map, List.getElem_map, heq, hx] at this
            exact this rfl
          have HT := Lib.hid htk
          have HX := Lib.hid hx
          have hle := held_drops_le s (gone.take m)
          clear htk hx hle
          go_wp2_with (go_at_call 142; refine (drop_at (HU.out.at_.fr0 ((Fr.refl _ _).alloc _)) hxs (held_mem hxs) (by have := held_drops_le s (gone.take m); omega) _ rfl).mono ?_; rintro e w2 ⟨rfl, hu2⟩)
          go_roundg (gone.length - (m + 1))
          case measure =>
            rw [HK2.out]
            omega
          case rel =>
            have hu2' := Upd.pre ((Fr.refl _ wr).alloc _) hu2
            rw [← held_drop HU.out.at_.ok hxs] at hu2'
            have hu3 := hu2'
            rw [dropsGs_snoc, ← HT.out] at hu2'
            refine ⟨m + 1, rfl, hlt, rfl, ?_, hG1.fr hu3.fr (fun k hk => hr.foot_lt (dropsGs_foot hk))⟩
            have := HU.out.trans hu3
            rw [dropsGs_snoc, ← HT.out] at this
            exact this
        · have hd1 : decide ((m : Int) < gone.length) = false := decide_eq_false (by omega)
          have hme : m = gone.length := by omega
          subst hme
          go_wp2_with fail
          go_end0
          have hu := HU.out
          rw [List.take_length] at hu
          refine ⟨rfl, dropsGs s gone, hu, ?_, ⟨rfl, rfl, rfl, rfl, rfl⟩, ⟨hlim.turns, fun e he => hlim.by_ e (List.mem_filter.1 he).1⟩⟩
          exact parts_abs hr.ok (fun e he => ⟨(HI.out.mem e he).1, (HI.out.mem e he).2.1⟩) (fun e he hk => HI.out.all e he (HALL.out e he) hk)
    · obtain ⟨e, he, rfl⟩ := List.mem_map.1 hx
      simp only [Pe.en] at hrun hent hns hit1
      unfold pcells at hrun hent
      have hRr1 := hRr.fr hf1 (fun k hk e => by
        have := hr.foot_lt hk
        have := hI.new
        have := hI.fr.size
        subst e
        omega)
      clear hz1
      have c1 := hRr1.blk.cell
      have l1 := hRr1.blk.lt
      have l1s := hRr1.blk.lts
      unfold gcells at c1
      have hW1 : Fr (fun _ => False) w w1 := hI.fr.then hf1 (fun i e => .inr (by rw [e]; exact Nat.le_refl _))
      have hrow1 : w1.ownsRow w.heap.size 151 8 u4 gone.length (goneCells gone) := own_move hI.row (fun k hk => hf1.block k (own_lt hI.row k hk) (fun e => by
        obtain ⟨cells, ht⟩ := own_typed hI.row k hk
        have := hI.it
        rw [← e] at this
        unfold IsIter at this
        rw [ht] at this
        cases this))
      have hvr : ∀ k, u4.ownBlock = some k → k ≠ w.heap.size := fun k hk e => by
        obtain ⟨cells, ht⟩ := own_typed hI.row k hk
        have := hI.it
        rw [← e] at this
        unfold IsIter at this
        rw [ht] at this
        cases this
      have hgl1 : gone.length ≤ 1000 := by
        have := hI.len
        have := hlim.L hr.ok
        omega
      have hkeep : ∀ {w2 : World}, Fr (fun _ => False) w1 w2 → w2.ownsRow w.heap.size 151 8 u4 gone.length (goneCells gone) := fun hf => own_move hrow1 (fun k hk => hf.block k (own_lt hrow1 k hk) (fun h => h))
      have hwhole := whole_cases hr.ok hlim he
      cases hlate : (e.p.tsn != cum && !Rs.less32 e.p.tsn cum) with
      | true =>
        simp only [Bool.and_eq_true, Bool.not_eq_true'] at hlate
        obtain ⟨hq, hls⟩ := hlate
        have hkp : keepP (s.L.map (·.p)) cum e.p = true := by unfold keepP; rw [hq, hls]; rfl
        have HKP := Lib.hid hkp
        clear hkp hwhole
        go_wp2_with (go_at_call 125; refine (less32_any _ _ _).mono ?_; rintro e2 w2 ⟨rfl, rfl⟩; rw [hls])
        go_roundg (left s.L (seen.push e.born))
        case measure =>
          rw [HK.out]
          exact left_push s.L seen e he hns
        case rel =>
          exact ⟨_, _, gone, rfl, hI.skip hr.ok he hns HKP.out (hit1.fr (S := fun _ => False) (by repeat (first | (with_reducible exact Fr.refl _ _) | (with_reducible refine Fr.drewN ?_ _) | (with_reducible refine Fr.drew ?_) | (with_reducible refine Fr.alloc ?_ _))) (fun h => h)) (hW1.trans (by repeat (first | (with_reducible exact Fr.refl _ _) | (with_reducible refine Fr.drewN ?_ _) | (with_reducible refine Fr.drew ?_) | (with_reducible refine Fr.alloc ?_ _)))) (hkeep (by repeat (first | (with_reducible exact Fr.refl _ _) | (with_reducible refine Fr.drewN ?_ _) | (with_reducible refine Fr.drew ?_) | (with_reducible refine Fr.alloc ?_ _))))⟩
      | false =>
        rcases hwhole with ⟨hwn, hends⟩ | ⟨f, z, hws, hends⟩
        · have hkp : keepP (s.L.map (·.p)) cum e.p = false := by unfold keepP; rw [hlate, hwn]; rfl
          have HKP := Lib.hid hkp
          have HE := Lib.hid hends
          clear hkp hends
          have hnl := hr.ok.ne e he
          cases hq : (e.p.tsn != cum) with
          | true =>
            have hls : Rs.less32 e.p.tsn cum = true := by
              rw [hq] at hlate
              simpa using hlate
            go_wp2_with (first
              | (go_at_call 125; refine (less32_any _ _ _).mono ?_; rintro e2 w2 ⟨rfl, rfl⟩; rw [hls])
              | (go_at_call 105; refine (whole_boxed hRr1 hlim he _ 0 (by unfold pcells; rfl)).mono ?_; rintro e2 w2 ⟨rfl, hA2, hB2⟩; rw [HE.out]; have cB2 := hB2.cell; unfold pcells at cB2; have lB2 := hB2.lt; have lB2s := hB2.lts)
              | (at_builtin; refine wpList_append_lies _ rfl (.tmp 40) (.tmp 42) 194 rfl w.heap.size 151 ip _ 8 48 Try.underlying194 hip hzp hszp hbyp rfl (by decide) u4 gone.length _ rfl (hkeep (hA2.trans (by repeat (first | (with_reducible exact Fr.refl _ _) | (with_reducible refine Fr.drewN ?_ _) | (with_reducible refine Fr.drew ?_) | (with_reducible refine Fr.alloc ?_ _))))) ⟨w2.heap.size, 0, none⟩ 1 1 (pcells e).toList rfl rfl (news_blk (Blk.new w2 _ _)) (one_pcells e) (by decide) (by simp only [maxLen]; omega) (by omega) (Nat.le_trans (hW1.trans (hA2.trans (by repeat (first | (with_reducible exact Fr.refl _ _) | (with_reducible refine Fr.drewN ?_ _) | (with_reducible refine Fr.drew ?_) | (with_reducible refine Fr.alloc ?_ _))))).size (Nat.le_refl _)) _ rfl ?_; intro g3 cap3 w3 hown3 hgrow3 hat3 hlt3))
            go_roundg (left s.L (seen.push e.born))
            case measure =>
              rw [HK.out]
              exact left_push s.L seen e he hns
            case rel =>
              have hf3 : Fr (fun k => u4.ownBlock = some k) w1 w3 := ((hA2.alloc _).mono (fun _ _ h => h.elim)).grown hgrow3 (fun k hk => .inl hk)
              exact ⟨_, _, gone ++ [e], rfl, hI.push hr.ok he hns HKP.out (hit1.fr hf3 (fun h => hvr _ h rfl)) ((hW1.trans (hA2.alloc _)).grown hgrow3 (fun k hk => .inr (World.ownsRow.lt hrow1 k hk).1)) hown3⟩
          | false =>
            go_wp2_with (first
              | (go_at_call 105; refine (whole_boxed hRr1 hlim he _ 0 (by unfold pcells; rfl)).mono ?_; rintro e2 w2 ⟨rfl, hA2, hB2⟩; rw [HE.out]; have cB2 := hB2.cell; unfold pcells at cB2; have lB2 := hB2.lt; have lB2s := hB2.lts)
              | (at_builtin; refine wpList_append_lies _ rfl (.tmp 40) (.tmp 42) 194 rfl w.heap.size 151 ip _ 8 48 Try.underlying194 hip hzp hszp hbyp rfl (by decide) u4 gone.length _ rfl (hkeep (hA2.trans (by repeat (first | (with_reducible exact Fr.refl _ _) | (with_reducible refine Fr.drewN ?_ _) | (with_reducible refine Fr.drew ?_) | (with_reducible refine Fr.alloc ?_ _))))) ⟨w2.heap.size, 0, none⟩ 1 1 (pcells e).toList rfl rfl (news_blk (Blk.new w2 _ _)) (one_pcells e) (by decide) (by simp only [maxLen]; omega) (by omega) (Nat.le_trans (hW1.trans (hA2.trans (by repeat (first | (with_reducible exact Fr.refl _ _) | (with_reducible refine Fr.drewN ?_ _) | (with_reducible refine Fr.drew ?_) | (with_reducible refine Fr.alloc ?_ _))))).size (Nat.le_refl _)) _ rfl ?_; intro g3 cap3 w3 hown3 hgrow3 hat3 hlt3))
            go_roundg (left s.L (seen.push e.born))
            case measure =>
              rw [HK.out]
              exact left_push s.L seen e he hns
            case rel =>
              have hf3 : Fr (fun k => u4.ownBlock = some k) w1 w3 := ((hA2.alloc _).mono (fun _ _ h => h.elim)).grown hgrow3 (fun k hk => .inl hk)
              exact ⟨_, _, gone ++ [e], rfl, hI.push hr.ok he hns HKP.out (hit1.fr hf3 (fun h => hvr _ h rfl)) ((hW1.trans (hA2.alloc _)).grown hgrow3 (fun k hk => .inr (World.ownsRow.lt hrow1 k hk).1)) hown3⟩
        · have hkp : keepP (s.L.map (·.p)) cum e.p = true := by unfold keepP; rw [hws]; simp
          have HKP := Lib.hid hkp
          have HE := Lib.hid hends
          clear hkp hends
          cases hq : (e.p.tsn != cum) with
          | true =>
            have hls : Rs.less32 e.p.tsn cum = true := by
              rw [hq] at hlate
              simpa using hlate
            go_wp2_with (first
              | (go_at_call 125; refine (less32_any _ _ _).mono ?_; rintro e2 w2 ⟨rfl, rfl⟩; rw [hls])
              | (go_at_call 105; refine (whole_boxed hRr1 hlim he _ 0 (by unfold pcells; rfl)).mono ?_; rintro e2 w2 ⟨rfl, hA2, hB2⟩; rw [HE.out]))
            go_roundg (left s.L (seen.push e.born))
            case measure =>
              rw [HK.out]
              exact left_push s.L seen e he hns
            case rel =>
              exact ⟨_, _, gone, rfl, hI.skip hr.ok he hns HKP.out (hit1.fr hA2 (fun h => h)) (hW1.trans hA2) (hkeep hA2)⟩
          | false =>
            go_wp2_with (go_at_call 105; refine (whole_boxed hRr1 hlim he _ 0 (by unfold pcells; rfl)).mono ?_; rintro e2 w2 ⟨rfl, hA2, hB2⟩; rw [HE.out])
            go_roundg (left s.L (seen.push e.born))
            case measure =>
              rw [HK.out]
              exact left_push s.L seen e he hns
            case rel =>
              exact ⟨_, _, gone, rfl, hI.skip hr.ok he hns HKP.out (hit1.fr hA2 (fun h => h)) (hW1.trans hA2) (hkeep hA2)⟩
end Go.Proofs.Ytpkbckkminmdmaa
