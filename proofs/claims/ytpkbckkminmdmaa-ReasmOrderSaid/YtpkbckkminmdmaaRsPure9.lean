/- Plain laws: when all pieces came, all messages came out, the ordered ones of a stream in order. -/
import Derived.Test.YtpkbckkminmdmaaRsPure8
namespace Go.Proofs.Ytpkbckkminmdmaa.Rs

theorem incr_eq : ∀ {a b : List Nat}, a.Pairwise (· < ·) → b.Pairwise (· < ·) → (∀ x, x ∈ a ↔ x ∈ b) → a = b
  | [], [], _, _, _ => rfl
  | [], y :: b, _, _, h => by have := (h y).2 (by simp); simp at this
  | x :: a, [], _, _, h => by have := (h x).1 (by simp); simp at this
  | x :: a, y :: b, ha, hb, h => by
    rw [List.pairwise_cons] at ha hb
    have hxy : x = y := by
      rcases List.mem_cons.1 ((h x).1 (by simp)) with e | e
      · exact e
      · rcases List.mem_cons.1 ((h y).2 (by simp)) with e2 | e2
        · exact e2.symm
        · have := hb.1 x e; have := ha.1 y e2; omega
    subst hxy
    rw [incr_eq ha.2 hb.2 fun z => ?_]
    constructor
    · intro hz
      rcases List.mem_cons.1 ((h z).1 (by simp [hz])) with e | e
      · have := ha.1 z hz; omega
      · exact e
    · intro hz
      rcases List.mem_cons.1 ((h z).2 (by simp [hz])) with e | e
      · have := hb.1 z hz; omega
      · exact e
theorem nodup_perm : ∀ {a b : List Nat}, a.Nodup → b.Nodup → (∀ x, x ∈ a ↔ x ∈ b) → a.Perm b
  | [], b, _, _, h => by
    cases b with
    | nil => exact List.Perm.refl _
    | cons y b => have := (h y).2 (by simp); simp at this
  | x :: a, b, ha, hb, h => by
    have ha' := List.nodup_cons.1 ha
    have hx : x ∈ b := (h x).1 (by simp)
    have hp := List.perm_cons_erase hx
    refine (List.Perm.cons x (nodup_perm ha'.2 (hb.erase x) fun z => ?_)).trans hp.symm
    rw [hb.mem_erase_iff]
    constructor
    · intro hz
      exact ⟨fun e => ha'.1 (by rw [← e]; exact hz), (h z).1 (by simp [hz])⟩
    · rintro ⟨h1, h2⟩
      rcases List.mem_cons.1 ((h z).2 h2) with e | e
      · exact absurd e h1
      · exact e
def selM (st : Int) (b : Bool) (l : List Ms) : List Ms := l.filter fun m => m.stream == st && m.ord == b
section
variable {G : List (List Pc)} {T : List Pc} {s : St} {H : List Nat} {got : List Ms}
theorem Inv.all (hc : Cuts G) (h : Inv G T s H got) (hT : ∀ x ∈ G.flatten, x ∈ T) (j : Nat) : j ∈ H ↔ j < G.length := by
  rw [h.done hc j]
  have hf : ∀ i, full G T i := fun i x hx => hT x (gr_flat hx)
  exact ⟨fun x => x.1, fun x => ⟨x, hf j, fun _ i _ _ => hf i⟩⟩
theorem Inv.len_le (h : Inv G T s H got) : got.length + s.row.length ≤ G.length := by
  have h1 := congrArg List.length h.mid.row
  rw [List.length_append, List.length_map] at h1
  have h2 := nodup_le h.mid.hn (b := List.range G.length) fun x hx => List.mem_range.2 (h.mid.hf x hx).1
  rw [List.length_range] at h2
  omega
theorem Inv.mem (h : Inv G T s H got) {m : Ms} (hm : m ∈ got ++ s.row) : ∃ j, j < G.length ∧ m = msgOf (gr G j) := by
  rw [h.mid.row] at hm
  obtain ⟨j, hj, rfl⟩ := List.mem_map.1 hm
  exact ⟨j, (h.mid.hf j hj).1, rfl⟩
theorem Inv.end_ (hc : Cuts G) (h : Inv G T s H got) (hT : ∀ x ∈ G.flatten, x ∈ T) (hr : s.row = []) :
    got.length = G.length ∧ held s = 0 ∧ (∀ st, selM st true got = selM st true (G.map msgOf)) ∧ (∀ st, (selM st false got).Perm (selM st false (G.map msgOf))) := by
  have hall := h.all hc hT
  have hg : got = H.map fun j => msgOf (gr G j) := by have := h.mid.row; rwa [hr, List.append_nil] at this
  have hp : H.Perm (List.range G.length) := nodup_perm h.mid.hn List.nodup_range fun x => by rw [hall, List.mem_range]
  have hG : G.map msgOf = (List.range G.length).map fun j => msgOf (gr G j) := by
    apply List.ext_getElem?
    intro i
    rw [List.getElem?_map, List.getElem?_map]
    rcases Nat.lt_or_ge i G.length with hi | hi
    · rw [List.getElem?_range hi, List.getElem?_eq_getElem hi]
      unfold gr
      rw [Option.map_some, Option.map_some, List.getD_eq_getElem?_getD, List.getElem?_eq_getElem hi]
      rfl
    · rw [List.getElem?_eq_none hi, List.getElem?_eq_none (by simp; omega)]
      rfl
  refine ⟨by rw [hg, List.length_map, hp.length_eq, List.length_range], ?_, fun st => ?_, fun st => ?_⟩
  · have hL : s.L = [] := by
      rw [List.eq_nil_iff_forall_not_mem]
      intro x hx
      obtain ⟨_, j, hj, hn⟩ := (h.mid.L x).1 hx
      exact hn ((hall j).2 (gr_lt hj))
    rw [held_eq, hL, hr]
    rfl
  · have e : H.filter (fun j => isOrd st (gr G j)) = (List.range G.length).filter fun j => isOrd st (gr G j) := by
      refine incr_eq (h.mid.mono st) (List.Pairwise.sublist List.filter_sublist List.pairwise_lt_range) fun x => ?_
      rw [List.mem_filter, List.mem_filter, hall, List.mem_range]
    have f : ∀ l : List Nat, selM st true (l.map fun j => msgOf (gr G j)) = (l.filter fun j => isOrd st (gr G j)).map fun j => msgOf (gr G j) := fun l => by
      unfold selM
      rw [List.filter_map]
      congr 1
      refine List.filter_congr fun j _ => ?_
      unfold isOrd
      show ((msgOf (gr G j)).stream == st && (msgOf (gr G j)).ord == true) = _
      rw [Bool.and_comm]
      cases (msgOf (gr G j)).ord <;> rfl
    rw [hg, hG, f, f, e]
  · unfold selM
    rw [hg, hG]
    exact (hp.map _).filter _
end
end Go.Proofs.Ytpkbckkminmdmaa.Rs
