/- The plain law of ImagePut: what is put in is found, all else stays, behind a deletion it is gone. No program in sight. -/
import Derived.Test.YtkgghnjpegpnlaaGreatDoorPut
import Derived.Test.YtkgghnjpegpnlaaGreatDoorDelete
import Derived.Test.YtkgghnjpegpnlaaGreatDoorSame
namespace Go.Proofs.YtkgghnjpegpnlaaGreatDoor
set_option linter.unusedSimpArgs false
set_option linter.unusedVariables false

theorem cmpS_self (a : ByteArray) : cmpS a a = 0 := cmpS_zero.2 rfl
theorem cmpS_flip {a b : ByteArray} : cmpS a b < 0 ↔ 0 < cmpS b a := by rw [cmpS_neg, cmpS_pos]

theorem keyB_iff {key : ByteArray} {e : DEntry} : keyB key e = true ↔ e.key = key := by
  unfold keyB
  constructor
  · intro h
    exact toList_inj (by simpa using h)
  · rintro rfl
    simp

/-- Rows that rise by their keys. -/
def Rises (l : List DEntry) : Prop := l.Pairwise fun x y => cmpS x.key y.key < 0
theorem rises_iff (l : List DEntry) : risingB (fun x y => cmpS x.key y.key) l = true ↔ Rises l := by
  constructor
  · intro h
    refine List.pairwise_iff_getElem.2 fun i j hi hj hij => ?_
    exact risingB_lt (p := fun x y : DEntry => cmpS x.key y.key) (fun x y z => cmpS_trans) h hij (List.getElem?_eq_getElem hi) (List.getElem?_eq_getElem hj)
  · intro h
    refine risingB_yes _ l fun k x y hx hy => ?_
    obtain ⟨hk, rfl⟩ := List.getElem?_eq_some_iff.1 hx
    obtain ⟨hk', rfl⟩ := List.getElem?_eq_some_iff.1 hy
    exact List.pairwise_iff_getElem.1 h k (k + 1) hk hk' (by omega)

/-- An image: what Check lets by. -/
def Img (l : List DEntry) : Prop := l.length ≤ 65536 ∧ Rises l ∧ ∀ e ∈ l, entryB e = true
theorem img_iff (l : List DEntry) : checkN l = 0 ↔ Img l := by
  constructor
  · intro h
    obtain ⟨h1, h2, h3⟩ := checkN_zero h
    refine ⟨h1, (rises_iff l).1 h2, fun e he => ?_⟩
    rw [List.any_eq_false] at h3
    simpa using h3 e he
  · rintro ⟨h1, h2, h3⟩
    unfold checkN
    have h4 : l.any (fun e => !entryB e) = false := by
      rw [List.any_eq_false]
      intro x hx
      simp [h3 x hx]
    rw [if_neg (by omega), (rises_iff l).2 h2, h4]
    simp

theorem findD_mem {l : List DEntry} (hr : Rises l) {e : DEntry} (he : e ∈ l) : findD l e.key = (e, true) := by
  obtain ⟨i, hi, hx⟩ := List.mem_iff_getElem.1 he
  have h : l.findIdx? (keyB e.key) = some i := by
    rw [List.findIdx?_eq_some_iff_getElem]
    refine ⟨hi, keyB_iff.2 (by rw [hx]), fun j hj => ?_⟩
    have := List.pairwise_iff_getElem.1 hr j i (by omega) hi hj
    intro hk
    rw [keyB_iff] at hk
    rw [hx, hk, cmpS_self] at this
    omega
  simp [findD, h, List.getElem?_eq_getElem hi, hx]
theorem findD_none {l : List DEntry} {key : ByteArray} (h : ∀ e ∈ l, e.key ≠ key) : findD l key = (zeroE, false) := by
  have h' : l.findIdx? (keyB key) = none := by
    rw [List.findIdx?_eq_none_iff]
    intro x hx
    rw [Bool.eq_false_iff]
    exact fun hk => h x hx (keyB_iff.1 hk)
  simp [findD, h']

/-- The row that Put makes. -/
theorem put_img {l : List DEntry} {e : DEntry} {zs : List DEntry} (h : PutRel l e zs 0) :
    Img l ∧ entryB e = true ∧ Img zs ∧ e ∈ zs ∧ (∀ x, x.key ≠ e.key → (x ∈ zs ↔ x ∈ l)) := by
  obtain ⟨h1, h2, h3⟩ := h
  by_cases hc : checkN l = 0
  · cases he : entryB e with
    | false => have := (h2 hc he).2; cases this
    | true =>
      obtain ⟨hlen, hr, hall⟩ := (img_iff l).1 hc
      obtain ⟨i, b, ⟨f1, f2, f3, f4⟩, g1, g2, g3⟩ := h3 hc he
      refine ⟨⟨hlen, hr, hall⟩, rfl, ?_⟩
      cases b with
      | true =>
        obtain ⟨-, rfl⟩ := g1 rfl
        obtain ⟨y, hy, hyk⟩ := f4.1 rfl
        have hyk' : y.key = e.key := cmpS_zero.1 hyk
        obtain ⟨hi, hyi⟩ := List.getElem?_eq_some_iff.1 hy
        refine ⟨⟨by simpa using hlen, ?_, fun x hx => ?_⟩, List.mem_set hi e, fun x hx => ?_⟩
        · refine List.pairwise_iff_getElem.2 fun j k hj hk hjk => ?_
          rw [List.length_set] at hj hk
          have := List.pairwise_iff_getElem.1 hr j k hj hk hjk
          rw [List.getElem_set, List.getElem_set]
          split <;> split
          · omega
          · subst_vars
            rw [← hyk']
            exact this
          · subst_vars
            rw [← hyk']
            exact this
          · exact this
        · rcases List.mem_or_eq_of_mem_set hx with h | rfl
          · exact hall x h
          · exact he
        · constructor
          · intro h
            rcases List.mem_or_eq_of_mem_set h with h | rfl
            · exact h
            · exact absurd rfl hx
          · intro h
            obtain ⟨j, hj, hxj⟩ := List.mem_iff_getElem.1 h
            have hij : i ≠ j := by
              rintro rfl
              apply hx
              rw [← hxj, hyi, hyk']
            refine List.mem_iff_getElem.2 ⟨j, by rwa [List.length_set], ?_⟩
            rw [List.getElem_set_ne hij, hxj]
      | false =>
        have hl : l.length ≠ 65536 := by
          intro hl
          have := (g2 rfl hl).1
          cases this
        obtain ⟨-, rfl⟩ := g3 rfl hl
        have hnone : ∀ x ∈ l.drop i, cmpS e.key x.key < 0 := by
          intro x hx
          obtain ⟨j, hj, hxj⟩ := List.mem_iff_getElem.1 hx
          rw [List.getElem_drop] at hxj
          rw [List.length_drop] at hj
          have hxq : l[i + j]? = some x := by rw [List.getElem?_eq_getElem (by omega), hxj]
          have h0 : 0 ≤ cmpS x.key e.key := f3 (i + j) x (by omega) hxq
          rcases Nat.eq_zero_or_pos j with rfl | hjp
          · have hne : cmpS x.key e.key ≠ 0 := by
              intro h
              have := f4.2 ⟨x, hxq, h⟩
              cases this
            exact cmpS_flip.2 (by omega)
          · obtain ⟨y, hy⟩ : ∃ y, l[i]? = some y := ⟨_, List.getElem?_eq_getElem (by omega)⟩
            obtain ⟨hi, hyi⟩ := List.getElem?_eq_some_iff.1 hy
            have h1 : 0 ≤ cmpS y.key e.key := f3 i y (Nat.le_refl _) hy
            have h2 := List.pairwise_iff_getElem.1 hr i (i + j) hi (by omega) (by omega)
            rw [hyi, hxj] at h2
            rcases Int.lt_or_eq_of_le h1 with h3 | h3
            · exact cmpS_trans (cmpS_flip.2 h3) h2
            · rw [cmpS_zero.1 h3.symm] at h2
              exact h2
        have hless : ∀ x ∈ l.take i, cmpS x.key e.key < 0 := by
          intro x hx
          obtain ⟨j, hj, hxj⟩ := List.mem_iff_getElem.1 hx
          rw [List.getElem_take] at hxj
          rw [List.length_take] at hj
          exact f2 j x (by omega) (by rw [List.getElem?_eq_getElem (by omega), hxj])
        have hmem : ∀ x, x ∈ l.take i ++ e :: l.drop i ↔ x = e ∨ x ∈ l := by
          intro x
          have : x ∈ l ↔ x ∈ l.take i ∨ x ∈ l.drop i := by rw [← List.mem_append, List.take_append_drop]
          simp only [List.mem_append, List.mem_cons]
          rw [this]
          constructor
          · rintro (h | h | h)
            · exact .inr (.inl h)
            · exact .inl h
            · exact .inr (.inr h)
          · rintro (h | h | h)
            · exact .inr (.inl h)
            · exact .inl h
            · exact .inr (.inr h)
        refine ⟨⟨?_, ?_, fun x hx => ?_⟩, by simp, fun x hx => ?_⟩
        · rw [List.length_append, List.length_cons, List.length_take, List.length_drop]
          omega
        · unfold Rises
          rw [List.pairwise_append]
          refine ⟨List.Pairwise.sublist (List.take_sublist _ _) hr, ?_, fun x hx y hy => ?_⟩
          · rw [List.pairwise_cons]
            exact ⟨hnone, List.Pairwise.sublist (List.drop_sublist _ _) hr⟩
          · rcases List.mem_cons.1 hy with rfl | hy
            · exact hless x hx
            · exact cmpS_trans (hless x hx) (hnone y hy)
        · rcases (hmem x).1 hx with rfl | h
          · exact he
          · exact hall x h
        · rw [hmem]
          exact ⟨fun h => h.elim (fun h => absurd (by rw [h]) hx) id, .inr⟩
  · have h0 := (h1 hc).2
    exact absurd h0.symm hc

theorem put_bad {l : List DEntry} {e : DEntry} {zs : List DEntry} {f : Int} (h : PutRel l e zs f) (hf : f ≠ 0) : zs = [] := by
  obtain ⟨h1, h2, h3⟩ := h
  by_cases hc : checkN l = 0
  · cases he : entryB e with
    | false => exact (h2 hc he).1
    | true =>
      obtain ⟨i, b, _, g1, g2, g3⟩ := h3 hc he
      cases b with
      | true => exact absurd (g1 rfl).1 hf
      | false =>
        by_cases hl : l.length = 65536
        · exact (g2 rfl hl).2
        · exact absurd (g3 rfl hl).1 hf
  · exact (h1 hc).1

theorem put_found {l : List DEntry} {e : DEntry} {zs : List DEntry} (h : PutRel l e zs 0) : findD zs e.key = (e, true) := by
  obtain ⟨_, _, ⟨_, hr, _⟩, hm, _⟩ := put_img h
  exact findD_mem hr hm
theorem put_other {l : List DEntry} {e : DEntry} {zs : List DEntry} (h : PutRel l e zs 0) {key : ByteArray} (hk : key ≠ e.key) : findD zs key = findD l key := by
  obtain ⟨⟨_, hrl, _⟩, _, ⟨_, hr, _⟩, hm, hiff⟩ := put_img h
  by_cases hin : ∃ x ∈ l, x.key = key
  · obtain ⟨x, hx, rfl⟩ := hin
    rw [findD_mem hrl hx, findD_mem hr ((hiff x hk).2 hx)]
  · have h1 : ∀ x ∈ l, x.key ≠ key := fun x hx he => hin ⟨x, hx, he⟩
    rw [findD_none h1, findD_none fun x hx he => h1 x ((hiff x (by rw [he]; exact hk)).1 hx) he]

theorem delD_yes {l : List DEntry} {key : ByteArray} (hm : ∃ e ∈ l, e.key = key) : ∃ i, i < l.length ∧ (∃ x, l[i]? = some x ∧ x.key = key) ∧ delD l key = (l.take i ++ l.drop (i + 1), true) := by
  obtain ⟨e, he, hk⟩ := hm
  cases hi : l.findIdx? (keyB key) with
  | none =>
    rw [List.findIdx?_eq_none_iff] at hi
    have := hi e he
    rw [Bool.eq_false_iff] at this
    exact absurd (keyB_iff.2 hk) this
  | some i =>
    obtain ⟨hil, hp, _⟩ := List.findIdx?_eq_some_iff_getElem.1 hi
    exact ⟨i, hil, ⟨_, List.getElem?_eq_getElem hil, keyB_iff.1 hp⟩, by simp [delD, hi]⟩
theorem put_del {l : List DEntry} {e : DEntry} {zs : List DEntry} (h : PutRel l e zs 0) : (delD zs e.key).2 = true ∧ (findD (delD zs e.key).1 e.key).2 = false ∧ checkN (delD zs e.key).1 = 0 := by
  obtain ⟨_, _, ⟨hlen, hr, hall⟩, hm, _⟩ := put_img h
  obtain ⟨i, hi, ⟨x, hx, hxk⟩, hd⟩ := delD_yes ⟨e, hm, rfl⟩
  obtain ⟨hi', hxi⟩ := List.getElem?_eq_some_iff.1 hx
  have hsub : (zs.take i ++ zs.drop (i + 1)).Sublist zs := by
    have := List.eraseIdx_sublist zs i
    rwa [List.eraseIdx_eq_take_drop_succ] at this
  rw [hd]
  refine ⟨rfl, ?_, ?_⟩
  · rw [findD_none]
    intro y hy hyk
    rcases List.mem_append.1 hy with hy | hy
    · obtain ⟨j, hj, hyj⟩ := List.mem_iff_getElem.1 hy
      rw [List.getElem_take] at hyj
      rw [List.length_take] at hj
      have := List.pairwise_iff_getElem.1 hr j i (by omega) hi (by omega)
      rw [hyj, hxi, hyk, hxk, cmpS_self] at this
      omega
    · obtain ⟨j, hj, hyj⟩ := List.mem_iff_getElem.1 hy
      rw [List.getElem_drop] at hyj
      rw [List.length_drop] at hj
      have := List.pairwise_iff_getElem.1 hr i (i + 1 + j) hi (by omega) (by omega)
      rw [hyj, hxi, hyk, hxk, cmpS_self] at this
      omega
  · refine (img_iff _).2 ⟨Nat.le_trans hsub.length_le hlen, List.Pairwise.sublist hsub hr, fun y hy => hall y (hsub.subset hy)⟩

theorem eqRows_refl {α : Type} {p : α → α → Bool} (h : ∀ x, p x x = true) : ∀ l, eqRows p l l = true
  | [] => rfl
  | x :: l => by simp [eqRows, h x, eqRows_refl h l]
theorem eqVal_refl (v : DVal) : eqVal v v = true := by
  unfold eqVal
  rw [eqRows_refl (p := eqScored) (fun x => by simp [eqScored]), eqRows_refl (p := eqStr) (fun x => by simp [eqStr]), eqRows_refl (p := eqField) (fun x => by simp [eqField])]
  simp [eqStr]
theorem eqE_refl (e : DEntry) : eqE e e = true := by
  unfold eqE eqStr
  rw [eqVal_refl]
  simp
end Go.Proofs.YtkgghnjpegpnlaaGreatDoor
