/- Rows whose slice may begin behind the block's head: seen, stored into, sliced, appended to. A list of rows in an array's slots; what a sector may be: the plain part of TopDev. The loops of a function's body, taken out of it; a frame by its slots. No conditions. -/
import Derived.Test.YtbpblokfiajpjabPka80c00f63d
import Derived.Test.YtbpblokfiajpjabProg
namespace Go.SL
open Go.RowKit

/-- a slice that owns its block from its first element on; off cells lie ahead of it -/
def rowo (e : TypeId) (sz : Nat) (v : Value) (n : Nat) (xs : List Value) : HP := fun h =>
  xs.length = n * sz ∧ ((v = .slice none 0 0 ∧ n = 0 ∧ emp h) ∨
    ∃ g off cap cur, v = .slice (some ⟨g, off, none⟩) n cap ∧ n ≤ cap ∧ cap ≤ maxLen ∧ cur.size = off + cap * sz ∧ (cur.toList.drop off).take (n * sz) = xs ∧ pts g (.cells cur e (0, 0)) h)

theorem rowo_of_row {e : TypeId} {sz : Nat} {v : Value} {n : Nat} {xs : List Value} {h : Hp} (H : row e sz v n xs h) : rowo e sz v n xs h := by
  obtain ⟨hl, h1 | ⟨g, cap, cur, rfl, h1, h2, h3, h4, h5⟩⟩ := H
  · exact ⟨hl, .inl h1⟩
  · exact ⟨hl, .inr ⟨g, 0, cap, cur, rfl, h1, h2, by omega, by simpa using h4, h5⟩⟩
theorem own_rowo_of_row {w : World} {L : List HP} (k : Nat) {e : TypeId} {sz : Nat} {v : Value} {n : Nat} {xs : List Value} (H : own w L) (hk : L[k]? = some (row e sz v n xs)) : own w (L.set k (rowo e sz v n xs)) :=
  own_weak k (fun _ => rowo_of_row) H hk

theorem own_rowo_nil {w : World} {L : List HP} (e : TypeId) (sz : Nat) (H : own w L) : own w (rowo e sz (.slice none 0 0) 0 [] :: L) :=
  own_rowo_of_row 0 (own_row_nil e sz H) rfl

theorem own_rowo_of {w : World} {L : List HP} (k : Nat) {g off cap n sz : Nat} {cur : Array Value} {e : TypeId} {xs : List Value} (H : own w L) (hk : L[k]? = some (pts g (.cells cur e (0, 0))))
    (hn : n ≤ cap) (hc : cap ≤ maxLen) (hs : cur.size = off + cap * sz) (ht : (cur.toList.drop off).take (n * sz) = xs) : own w (L.set k (rowo e sz (.slice (some ⟨g, off, none⟩) n cap) n xs)) := by
  refine own_weak k (fun h hh => ⟨?_, .inr ⟨g, off, cap, cur, rfl, hn, hc, hs, ht, hh⟩⟩) H hk
  rw [← ht, List.length_take, List.length_drop, Array.length_toList, hs]
  have := Nat.mul_le_mul_right sz hn
  omega

theorem own_rowo {w : World} {L : List HP} (k : Nat) {e : TypeId} {sz : Nat} {v : Value} {n : Nat} {xs : List Value} (H : own w L) (hk : L[k]? = some (rowo e sz v n xs)) :
    xs.length = n * sz ∧ ((v = .slice none 0 0 ∧ n = 0) ∨
    ∃ g off cap cur, v = .slice (some ⟨g, off, none⟩) n cap ∧ n ≤ cap ∧ cap ≤ maxLen ∧ cur.size = off + cap * sz ∧ (cur.toList.drop off).take (n * sz) = xs ∧ own w (L.set k (pts g (.cells cur e (0, 0))))) := by
  obtain ⟨h, hs, h1, h2, a, ⟨hl, p⟩, q⟩ := own_pick k H hk
  refine ⟨hl, ?_⟩
  rcases p with ⟨rfl, rfl, _⟩ | ⟨g, off, cap, cur, rfl, c1, c2, c3, c4, c5⟩
  · exact .inl ⟨rfl, rfl⟩
  · exact .inr ⟨g, off, cap, cur, rfl, c1, c2, c3, c4, own_put H k hk ⟨h, hs, h1, h2, a, c5, q⟩⟩

theorem take_drop_get {l xs : List Value} {off m j : Nat} {u : Value} (h : (l.drop off).take m = xs) (hu : xs[j]? = some u) : l[off + j]? = some u := by
  rw [← h, List.getElem?_take] at hu
  split at hu
  · rwa [List.getElem?_drop] at hu
  · cases hu

/-- the form of such a slice's value -/
theorem own_rowo_form {w : World} {L : List HP} (k : Nat) {e : TypeId} {sz : Nat} {v : Value} {n : Nat} {xs : List Value} (H : own w L) (hk : L[k]? = some (rowo e sz v n xs)) :
    ∃ ao g off cap, v = .slice ao n cap ∧ n ≤ cap ∧ cap ≤ maxLen ∧ (0 < n → ao = some ⟨g, off, none⟩) ∧ (∀ j u, xs[j]? = some u → w.cell? ⟨g, off + j, none⟩ = some u) ∧ (ao ≠ none → ∀ j, w.frozen? ⟨g, j, none⟩ = false) := by
  obtain ⟨hl, ⟨rfl, rfl⟩ | ⟨g, off, cap, cur, rfl, h1, h2, h3, h4, h5⟩⟩ := own_rowo k H hk
  · have hx : xs = [] := List.eq_nil_of_length_eq_zero (by simpa using hl)
    subst hx
    exact ⟨none, 0, 0, 0, rfl, Nat.le_refl _, by simp [maxLen], fun h => absurd h (by simp), (fun j u h => by simp at h), fun h => absurd rfl h⟩
  · have hk' : (L.set k (pts g (.cells cur e (0, 0))))[k]? = some (pts g (.cells cur e (0, 0))) := by
      have := (List.getElem?_eq_some_iff.1 hk).1
      simp [this]
    obtain ⟨hc, hf⟩ := own_cells k h5 hk'
    refine ⟨_, g, off, cap, rfl, h1, h2, fun _ => rfl, fun j u hu => ?_, fun _ => hf⟩
    rw [hc, ← Array.getElem?_toList]
    exact take_drop_get h4 hu

/-- v[k:], the elements from k on -/
theorem own_rowo_cut {w : World} {L : List HP} (k : Nat) {e : TypeId} {sz g off n cap : Nat} {xs : List Value} (H : own w L) (hk : L[k]? = some (rowo e sz (.slice (some ⟨g, off, none⟩) n cap) n xs)) (i : Nat) (hi : i ≤ n) :
    own w (L.set k (rowo e sz (.slice (some ⟨g, off + i * sz, none⟩) (n - i) (cap - i)) (n - i) (xs.drop (i * sz)))) := by
  refine own_weak k (fun h ⟨hl, hh⟩ => ?_) H hk
  rcases hh with ⟨h1, _⟩ | ⟨g', off', cap', cur, h1, h2, h3, h4, h5, h6⟩
  · cases h1
  · simp only [Value.slice.injEq, Option.some.injEq, Addr.mk.injEq, and_true, true_and] at h1
    obtain ⟨⟨rfl, rfl⟩, rfl⟩ := h1
    have e1 := Nat.sub_mul n i sz
    have e2 := Nat.sub_mul cap i sz
    have e3 := Nat.mul_le_mul_right sz hi
    have e4 := Nat.mul_le_mul_right sz h2
    refine ⟨by rw [List.length_drop, hl, e1], .inr ⟨g, off + i * sz, cap - i, cur, rfl, by omega, by omega, by omega, ?_, h6⟩⟩
    rw [← h5, List.drop_take, List.drop_drop, e1]

section
variable {P : Program}
theorem run_append_room_off (w : World) (t ty e : TypeId) (i : TypeInfo) (ht : P.underlying t = some (.slice e)) (hi : P.info? e = some i)
    (g off sLen sCap : Nat) (cur : Array Value) (hg : w.heap[g]? = some (.cells cur e (0, 0)))
    (a : Addr) (m c : Nat) (news : List Value) (hl : news.length = m * i.size) (hnews : ∀ j u, news[j]? = some u → w.cell? (a.add j) = some u) (h1 : ∀ u ∈ news, u.oneCell' = true)
    (hroom : sLen + m ≤ sCap) (hfit : off + sLen * i.size + news.length ≤ cur.size) :
    (Builtin.append_ #[t, t] ty #[.slice (some ⟨g, off, none⟩) sLen sCap, .slice (some a) m c]).run P w =
      .ok (.slice (some ⟨g, off, none⟩) (sLen + m) sCap) (w.setRow g (cur.toList.take (off + sLen * i.size) ++ news ++ cur.toList.drop (off + sLen * i.size + news.length)).toArray) := by
  have hf := run_firstCells_some (P := P) w i.size m a m c news hl hnews
  have hst := run_storeCells_at P g (off + sLen * i.size) e news 0 cur w hg (by simpa using hfit) h1
  simp only [Nat.add_zero] at hst
  have hadd : (⟨g, off, none⟩ : Addr).add (sLen * i.size) = ⟨g, off + sLen * i.size, none⟩ := by unfold Addr.add; split <;> simp_all
  simp [Builtin.append_, run_underlying ht, sizeOf, typeInfo, hi, Builtin.lenOf, hroom, hf, hadd, hst]

theorem run_append_rowo {w : World} {L : List HP} (k : Nat) (t ty e : TypeId) {sz bytes : Nat} {z : Value} (ht : P.underlying t = some (.slice e)) (he : Elem P e sz bytes z) (hzs : z.cells.size = sz) (hsz : 0 < sz)
    {g off n cap : Nat} {xs : List Value} (H : own w L) (hk : L[k]? = some (rowo e sz (.slice (some ⟨g, off, none⟩) n cap) n xs))
    (a : Addr) (m c : Nat) (news : List Value) (hl : news.length = m * sz) (hnews : ∀ j u, news[j]? = some u → w.cell? (a.add j) = some u) (h1 : ∀ u ∈ news, u.oneCell' = true)
    (h63 : n + m ≤ maxLen) (hbytes : (n + m) * bytes ≤ 140737488355328) :
    ∃ g' off' cap' w', (Builtin.append_ #[t, t] ty #[.slice (some ⟨g, off, none⟩) n cap, .slice (some a) m c]).run P w = .ok (.slice (some ⟨g', off', none⟩) (n + m) cap') w' ∧ n + m ≤ cap' ∧ cap' ≤ maxLen ∧
      own w' (L.set k (rowo e sz (.slice (some ⟨g', off', none⟩) (n + m) cap') (n + m) (xs ++ news))) ∧ Ext w w' := by
  obtain ⟨i, hi, hz, rfl, rfl⟩ := info_parts he
  obtain ⟨hlen, hv⟩ := own_rowo k H hk
  have hkl : k < L.length := (List.getElem?_eq_some_iff.1 hk).1
  have hlen' : (xs ++ news).length = (n + m) * i.size := by rw [List.length_append, hlen, hl, Nat.add_mul]
  have h63' : n + m ≤ 9223372036854775807 := by simp only [maxLen] at h63; omega
  rcases hv with ⟨h0, _⟩ | ⟨g0, off0, cap0, cur, hv0, c1, c2, c3, c4, c5⟩
  · cases h0
  · simp only [Value.slice.injEq, Option.some.injEq, Addr.mk.injEq, and_true, true_and] at hv0
    obtain ⟨⟨rfl, rfl⟩, rfl⟩ := hv0
    have hk' : (L.set k (pts g (.cells cur e (0, 0))))[k]? = some (pts g (.cells cur e (0, 0))) := by simp [hkl]
    have hg := own_at k c5 hk'
    by_cases hroom : n + m ≤ cap
    · have hm1 := Nat.mul_le_mul_right i.size hroom
      have hm2 := Nat.add_mul n m i.size
      have hfit : off + n * i.size + news.length ≤ cur.size := by rw [hl, c3]; omega
      have hr := run_append_room_off (P := P) w t ty e i ht hi g off n cap cur hg a m c news hl hnews h1 hroom hfit
      refine ⟨g, off, cap, _, hr, hroom, c2, ?_, ⟨rfl, rfl, rfl, by simp [World.setRow]⟩⟩
      have hu : own (w.setRow g (cur.toList.take (off + n * i.size) ++ news ++ cur.toList.drop (off + n * i.size + news.length)).toArray) _ := own_upd k (o' := .cells (cur.toList.take (off + n * i.size) ++ news ++ cur.toList.drop (off + n * i.size + news.length)).toArray e (0, 0)) c5 hk' (by
        funext x
        by_cases hx : x = g
        · subst hx; simp only [if_true]; exact setRow_heap w x cur _ e _ hg
        · simp only [hx, if_false]; exact setRow_other w g x _ hx)
      have hk2 : ((L.set k (pts g (.cells cur e (0, 0)))).set k (pts g (.cells (cur.toList.take (off + n * i.size) ++ news ++ cur.toList.drop (off + n * i.size + news.length)).toArray e (0, 0))))[k]? =
          some (pts g (.cells (cur.toList.take (off + n * i.size) ++ news ++ cur.toList.drop (off + n * i.size + news.length)).toArray e (0, 0))) := by simp [hkl]
      have h3 := own_rowo_of k (n := n + m) (cap := cap) (off := off) (sz := i.size) (xs := xs ++ news) hu hk2 hroom c2 (by
        simp only [List.size_toArray, List.length_append, List.length_take, List.length_drop, Array.length_toList]
        omega) (by
        have e1 : cur.toList.take (off + n * i.size) = cur.toList.take off ++ xs := by rw [List.take_add, c4]
        have e2 : (cur.toList.take off).length = off := by rw [List.length_take, Array.length_toList]; omega
        rw [e1, List.append_assoc, List.append_assoc]
        rw [List.drop_append_of_le_length (by omega), List.drop_of_length_le (by omega), List.nil_append, ← List.append_assoc, ← hlen']
        exact List.take_left)
      simpa only [List.set_set] using h3
    · have holds : ∀ j u, xs[j]? = some u → w.cell? ((⟨g, off, none⟩ : Addr).add j) = some u := fun j u hu => by
        have hadd : (⟨g, off, none⟩ : Addr).add j = ⟨g, off + j, none⟩ := by unfold Addr.add; split <;> simp_all
        rw [hadd, (own_cells k c5 hk').1, ← Array.getElem?_toList]
        exact take_drop_get c4 hu
      have hr := run_append_grow (P := P) w t ty e i z ht hi hz ⟨g, off, none⟩ n cap xs hlen holds a m c news hl hnews (by omega) (by omega) (growslice_fits (by omega) hbytes)
      have hge := grownCap_ge w (n + m) cap e
      have hcm := grownCap_le_maxLen w (n + m) cap e h63
      refine ⟨w.heap.size, 0, _, _, hr, hge, hcm, ?_, (Ext.refl _).drew.alloc _⟩
      have h2 := own_alloc (own_erase k (own_drew H) hk) (.cells (xs.toArray ++ news.toArray ++ Builtin.zeroCells z.cells (grownCap w (n + m) cap e - (n + m))) e)
      have h3 := own_rowo_of 0 (n := n + m) (off := 0) (cap := grownCap w (n + m) cap e) (sz := i.size) (xs := xs ++ news) h2 rfl hge hcm (by
        simp only [Array.size_append, List.size_toArray, size_zeroCells, hzs, hlen, hl, ← Nat.add_mul, Nat.zero_add]
        congr 1
        omega) (by
        simp only [Array.toList_append, List.append_assoc, List.drop_zero]
        rw [← List.append_assoc, ← hlen']
        exact List.take_left)
      exact own_put H k hk h3

theorem wpList_append_rowo {w : World} {L : List HP} {ops : Array Oper} {rest : List Oper} {o : Oper} {a : Act} {Q : Exit → Act → World → Prop} (hgd : o.guard = none) (s x : Operand) (t : TypeId)
    (ho : o.op = .call { callee := .builtin .append, args := #[s, x], argTypes := #[t, t] })
    (k : Nat) (e : TypeId) {sz bytes : Nat} {z : Value} (ht : P.underlying t = some (.slice e)) (he : Elem P e sz bytes z) (hzs : z.cells.size = sz) (hsz : 0 < sz)
    {g off n cap : Nat} {xs : List Value} (hs : a.eval s = .slice (some ⟨g, off, none⟩) n cap) (H : own w L) (hk : L[k]? = some (rowo e sz (.slice (some ⟨g, off, none⟩) n cap) n xs))
    (ad : Addr) (m c : Nat) (news : List Value) (hx : a.eval x = .slice (some ad) m c) (hl : news.length = m * sz) (hnews : ∀ j u, news[j]? = some u → w.cell? (ad.add j) = some u) (h1 : ∀ u ∈ news, u.oneCell' = true)
    (h63 : n + m ≤ maxLen) (hbytes : (n + m) * bytes ≤ 140737488355328)
    (h : ∀ g' off' cap' w', n + m ≤ cap' → cap' ≤ maxLen → own w' (L.set k (rowo e sz (.slice (some ⟨g', off', none⟩) (n + m) cap') (n + m) (xs ++ news))) → Ext w w' → wpList P ops Q rest (a.put o.dst (.slice (some ⟨g', off', none⟩) (n + m) cap')) w') : wpList P ops Q (o :: rest) a w :=
  wpList_plain hgd fun K hK => by
    obtain ⟨g', off', cap', w', hr, c1, c2, h2, h3⟩ := run_append_rowo (P := P) k t o.type e ht he hzs hsz H hk ad m c news hl hnews h1 h63 hbytes
    unfold Oper.wp execOp
    simp only [ho, resolve, invoke, builtin, Sem.run_bind, Sem.run_pure, Result.andThen_ok, List.map_toArray, List.map_cons, List.map_nil, hs, hx, hr]
    exact hK _ _ (h g' off' cap' w' c1 c2 h2 h3)

theorem step_append_rowo {w : World} {L : List HP} {ops : Array Oper} {o : Oper} {a : Act} {K : Act → World → Prop} {Q : Exit → Act → World → Prop} {E : Prop} (hgd : o.guard = none) (s x : Operand) (t : TypeId)
    (ho : o.op = .call { callee := .builtin .append, args := #[s, x], argTypes := #[t, t] })
    (k : Nat) (e : TypeId) {sz bytes : Nat} {z : Value} (ht : P.underlying t = some (.slice e)) (he : Elem P e sz bytes z) (hzs : z.cells.size = sz) (hsz : 0 < sz)
    {g off n cap : Nat} {xs : List Value} (hs : a.eval s = .slice (some ⟨g, off, none⟩) n cap) (H : own w L) (hk : L[k]? = some (rowo e sz (.slice (some ⟨g, off, none⟩) n cap) n xs))
    (ad : Addr) (m c : Nat) (news : List Value) (hx : a.eval x = .slice (some ad) m c) (hl : news.length = m * sz) (hnews : ∀ j u, news[j]? = some u → w.cell? (ad.add j) = some u) (h1 : ∀ u ∈ news, u.oneCell' = true)
    (h63 : n + m ≤ maxLen) (hbytes : (n + m) * bytes ≤ 140737488355328)
    (h : ∀ g' off' cap' w', n + m ≤ cap' → cap' ≤ maxLen → own w' (L.set k (rowo e sz (.slice (some ⟨g', off', none⟩) (n + m) cap') (n + m) (xs ++ news))) → Ext w w' → K (a.put o.dst (.slice (some ⟨g', off', none⟩) (n + m) cap')) w') : if Region.wanted o (yielded ops a.tmps) = true then Oper.wp P o a w K Q else E := by
  rw [if_pos (by simp [Region.wanted, hgd])]
  obtain ⟨g', off', cap', w', hr, c1, c2, h2, h3⟩ := run_append_rowo (P := P) k t o.type e ht he hzs hsz H hk ad m c news hl hnews h1 h63 hbytes
  unfold Oper.wp execOp
  simp only [ho, resolve, invoke, builtin, Sem.run_bind, Sem.run_pure, Result.andThen_ok, List.map_toArray, List.map_cons, List.map_nil, hs, hx, hr]
  exact h g' off' cap' w' c1 c2 h2 h3
end
end Go.SL

namespace Go.Proofs.Ytbpblokfiajpjab
open Go.RowKit Go.SL

def upd {α : Type} (f : Nat → α) (k : Nat) (x : α) : Nat → α := fun j => if j = k then x else f j
theorem upd_same {α : Type} (f : Nat → α) (k : Nat) (x : α) : upd f k x k = x := if_pos rfl
theorem upd_other {α : Type} (f : Nat → α) {k j : Nat} (x : α) (h : j ≠ k) : upd f k x j = f j := if_neg h

def rowsO (n : Nat) (vs : Nat → Value) (hs : Nat → List ByteArray) : List HP := (List.range n).map fun k => rowo 9 1 (vs k) (hs k).length (strCells (hs k))
theorem rowsO_len (n : Nat) (vs : Nat → Value) (hs : Nat → List ByteArray) : (rowsO n vs hs).length = n := by simp [rowsO]
theorem rowsO_get {n : Nat} (vs : Nat → Value) (hs : Nat → List ByteArray) {k : Nat} (h : k < n) : (rowsO n vs hs)[k]? = some (rowo 9 1 (vs k) (hs k).length (strCells (hs k))) := by simp [rowsO, h]
theorem rowsO_set {n : Nat} (vs : Nat → Value) (hs : Nat → List ByteArray) {k : Nat} (v : Value) (l : List ByteArray) (_h : k < n) : (rowsO n vs hs).set k (rowo 9 1 v l.length (strCells l)) = rowsO n (upd vs k v) (upd hs k l) := by
  apply List.ext_getElem?
  intro j
  rw [List.getElem?_set]
  by_cases hj : j < n
  · rw [rowsO_get _ _ hj]
    by_cases e : k = j
    · subst e
      rw [if_pos rfl, if_pos (by rw [rowsO_len]; exact hj), rowsO_get _ _ hj, upd_same, upd_same]
    · rw [if_neg e, rowsO_get _ _ hj, upd_other _ _ (fun h => e h.symm), upd_other _ _ (fun h => e h.symm)]
  · have h1 : (rowsO n (upd vs k v) (upd hs k l))[j]? = none := List.getElem?_eq_none (by rw [rowsO_len]; omega)
    have h2 : (rowsO n vs hs)[j]? = none := List.getElem?_eq_none (by rw [rowsO_len]; omega)
    rw [h1, h2]
    split
    · rw [if_neg (by rw [rowsO_len]; omega)]
    · rfl
theorem rowsO_succ (n : Nat) (vs : Nat → Value) (hs : Nat → List ByteArray) (v : Value) (l : List ByteArray) : rowsO (n + 1) (upd vs n v) (upd hs n l) = rowsO n vs hs ++ [rowo 9 1 v l.length (strCells l)] := by
  unfold rowsO
  rw [List.range_succ, List.map_append]
  congr 1
  · apply List.map_congr_left
    intro j hj
    have : j ≠ n := by have := List.mem_range.1 hj; omega
    rw [upd_other _ _ this, upd_other _ _ this]
  · simp [upd_same]
theorem rowsO_at {n : Nat} {A : List HP} {R : List HP} (vs : Nat → Value) (hs : Nat → List ByteArray) {k : Nat} (h : k < n) : (A ++ (rowsO n vs hs ++ R))[A.length + k]? = some (rowo 9 1 (vs k) (hs k).length (strCells (hs k))) := by
  rw [List.getElem?_append_right (by omega), Nat.add_sub_cancel_left, List.getElem?_append_left (by rw [rowsO_len]; exact h)]
  exact rowsO_get vs hs h
theorem rowsO_put {n : Nat} {A : List HP} {R : List HP} (vs : Nat → Value) (hs : Nat → List ByteArray) {k : Nat} (v : Value) (l : List ByteArray) (h : k < n) :
    (A ++ (rowsO n vs hs ++ R)).set (A.length + k) (rowo 9 1 v l.length (strCells l)) = A ++ (rowsO n (upd vs k v) (upd hs k l) ++ R) := by
  rw [List.set_append_right _ _ (by omega), Nat.add_sub_cancel_left, List.set_append_left _ _ (by rw [rowsO_len]; exact h), rowsO_set vs hs v l h]

/-- the array's cells: q of them set -/
def mayArr (q : Nat) (vs : Nat → Value) : Array Value := ((List.range 20).map fun k => if k < q then vs k else .slice none 0 0).toArray
theorem mayArr_get {q : Nat} (vs : Nat → Value) {k : Nat} (h : k < 20) (hq : k < q) : (mayArr q vs)[k]? = some (vs k) := by simp [mayArr, h, hq]
theorem mayArr_fresh {q : Nat} (vs : Nat → Value) (h : q < 20) : (mayArr q vs)[q]? = some (.slice none 0 0) := by simp [mayArr, h]
theorem mayArr_init (vs : Nat → Value) : mayArr 0 vs = #[.slice none 0 0, .slice none 0 0, .slice none 0 0, .slice none 0 0, .slice none 0 0, .slice none 0 0, .slice none 0 0, .slice none 0 0, .slice none 0 0, .slice none 0 0, .slice none 0 0, .slice none 0 0, .slice none 0 0, .slice none 0 0, .slice none 0 0, .slice none 0 0, .slice none 0 0, .slice none 0 0, .slice none 0 0, .slice none 0 0] := rfl
theorem mayArr_succ {q : Nat} (vs : Nat → Value) (v : Value) : (mayArr q vs).setIfInBounds q v = mayArr (q + 1) (upd vs q v) := by
  apply Array.ext
  · simp [mayArr]
  · intro j h1 h2
    simp only [mayArr, List.setIfInBounds_toArray, List.getElem_toArray, List.getElem_set, List.getElem_map, List.getElem_range]
    by_cases e : q = j
    · subst e; simp [upd]
    · rw [if_neg e]
      have : j ≠ q := fun h => e h.symm
      by_cases hl : j < q
      · rw [if_pos hl, if_pos (by omega), upd_other _ _ this]
      · rw [if_neg hl, if_neg (by omega)]
theorem mayArr_set {q : Nat} (vs : Nat → Value) (v : Value) {k : Nat} (h : k < q) : (mayArr q vs).setIfInBounds k v = mayArr q (upd vs k v) := by
  apply Array.ext
  · simp [mayArr]
  · intro j h1 h2
    simp only [mayArr, List.setIfInBounds_toArray, List.getElem_toArray, List.getElem_set, List.getElem_map, List.getElem_range]
    by_cases e : k = j
    · subst e; simp [upd, h]
    · rw [if_neg e]
      have : j ≠ k := fun h => e h.symm
      rw [upd_other _ _ this]

/-! ### what a sector may be -/
def DevM.may (m : DevM) (k : Nat) : List ByteArray := m.fl.getD k ByteArray.empty :: ((m.pend.filter fun x => decide (x.1 = (k : Int))).map (·.2))
theorem may_pos (m : DevM) (k : Nat) : 0 < (m.may k).length := by simp [DevM.may]
theorem may_len (m : DevM) (k : Nat) : (m.may k).length ≤ m.pend.length + 1 := by
  have := List.length_filter_le (fun x : Int × ByteArray => decide (x.1 = (k : Int))) m.pend
  simp [DevM.may]; omega
theorem may_write {m : DevM} {A : Int} {S : ByteArray} (hf : m.fail = -1) (hb : m.bad A S = false) (k : Nat) : (m.write A S).2.may k = if A = (k : Int) then m.may k ++ [S] else m.may k := by
  unfold DevM.write
  rw [if_neg (by simp [hb]), if_neg (by omega)]
  unfold DevM.may
  dsimp only
  rw [List.filter_append, List.map_append]
  by_cases h : A = (k : Int)
  · simp [h]
  · simp [h]
theorem write_ok_code {m : DevM} {A : Int} {S : ByteArray} (hf : m.fail = -1) (hb : m.bad A S = false) : (m.write A S).1 = 0 ∧ (m.write A S).2.fail = -1 ∧ (m.write A S).2.fl = m.fl ∧ (m.write A S).2.pend.length = m.pend.length + 1 ∧ (m.write A S).2.writes = m.writes + 1 := by
  unfold DevM.write
  rw [if_neg (by simp [hb]), if_neg (by omega)]
  dsimp only
  refine ⟨rfl, ?_, rfl, by simp, rfl⟩
  rw [if_neg (by omega)]; exact hf
theorem write_bad_code {m : DevM} {A : Int} {S : ByteArray} (hb : m.bad A S = true) : m.write A S = (1, m) := by
  unfold DevM.write
  rw [if_pos hb]
theorem may_flushed {m : DevM} (k : Nat) (h : m.pend = []) : m.may k = [m.fl.getD k ByteArray.empty] := by simp [DevM.may, h]
theorem foldl_sel {p : List (Int × ByteArray)} {k : Int} : ∀ s : ByteArray, p.foldl (fun s x => if x.1 = k then x.2 else s) s = (s :: ((p.filter fun x => decide (x.1 = k)).map (·.2))).getLastD ByteArray.empty := by
  induction p with
  | nil => intro s; rfl
  | cons x p ih =>
    intro s
    rw [List.foldl_cons, ih]
    by_cases h : x.1 = k
    · rw [if_pos h, List.filter_cons_of_pos (by simpa using h), List.map_cons]
      rfl
    · rw [if_neg h, List.filter_cons_of_neg (by simpa using h)]
theorem may_last (m : DevM) (k : Nat) : (m.may k).getLastD ByteArray.empty = m.seen (k : Int) := by
  unfold DevM.seen DevM.may
  rw [foldl_sel]
  rfl
theorem foldl_setAt_get {p : List (Int × ByteArray)} : ∀ {f : List ByteArray} {k : Nat}, k < f.length → (∀ x ∈ p, 0 ≤ x.1) → (p.foldl setAt f).getD k ByteArray.empty = p.foldl (fun s x => if x.1 = (k : Int) then x.2 else s) (f.getD k ByteArray.empty) := by
  induction p with
  | nil => intro f k _ _; rfl
  | cons x p ih =>
    intro f k hk hp
    have h0 := hp x (by simp)
    rw [List.foldl_cons, List.foldl_cons, ih (by simpa [setAt] using hk) fun y hy => hp y (by simp [hy])]
    congr 1
    unfold setAt
    by_cases h : x.1 = (k : Int)
    · rw [if_pos h]
      have : x.1.toNat = k := by omega
      rw [this]
      simp [hk]
    · rw [if_neg h]
      have : x.1.toNat ≠ k := by omega
      rw [List.getD_eq_getElem?_getD, List.getElem?_set, if_neg this, List.getD_eq_getElem?_getD]
theorem flush_get {m : DevM} (hm : m.Ok) {k : Nat} (hk : k < m.fl.length) : m.flush.fl.getD k ByteArray.empty = m.seen (k : Int) := by
  unfold DevM.flush DevM.seen
  exact foldl_setAt_get hk fun x hx => (hm.pend x hx).1
theorem may_flush {m : DevM} (hm : m.Ok) {k : Nat} (hk : k < m.fl.length) : m.flush.may k = [(m.may k).getLastD ByteArray.empty] := by
  rw [may_flushed k rfl, may_last, flush_get hm hk]
theorem sel_mem {p : List (Int × ByteArray)} {k : Int} (s : ByteArray) : p.foldl (fun s x => if x.1 = k then x.2 else s) s ∈ s :: ((p.filter fun x => decide (x.1 = k)).map (·.2)) := by
  rw [foldl_sel]
  have : ∀ (l : List ByteArray) (a : ByteArray), l.getLastD a ∈ a :: l := fun l => by
    induction l with
    | nil => intro a; simp
    | cons b l ih => intro a; rw [List.getLastD_cons]; exact List.mem_cons_of_mem _ (ih b)
  rw [List.getLastD_cons]
  exact this _ _
theorem kept_filter {p : List (Int × ByteArray)} {ks : List Bool} {x : Int × ByteArray} (h : x ∈ keptOnes p ks) : x ∈ p := keptOnes_mem h
theorem crash_seen {m : DevM} (hm : m.Ok) (ks : List Bool) {k : Nat} (hk : k < m.fl.length) : (m.crash ks).seen (k : Int) ∈ m.may k := by
  have e : (m.crash ks).seen (k : Int) = ((keptOnes m.pend ks).foldl setAt m.fl).getD k ByteArray.empty := rfl
  rw [e, foldl_setAt_get hk fun x hx => (hm.pend x (kept_filter hx)).1]
  have := sel_mem (p := keptOnes m.pend ks) (k := (k : Int)) (m.fl.getD k ByteArray.empty)
  unfold DevM.may
  rcases List.mem_cons.1 this with h | h
  · rw [h]; simp
  · refine List.mem_cons_of_mem _ ?_
    obtain ⟨x, hx, hxe⟩ := List.mem_map.1 h
    obtain ⟨h1, h2⟩ := List.mem_filter.1 hx
    exact List.mem_map.2 ⟨x, List.mem_filter.2 ⟨kept_filter h1, h2⟩, hxe⟩
theorem crash_none (m : DevM) : (m.crash []).fl = m.fl := by
  have : ∀ p : List (Int × ByteArray), keptOnes p [] = [] := fun p => by cases p <;> rfl
  unfold DevM.crash
  rw [this]
  rfl
theorem crash_flushed (m : DevM) (ks : List Bool) : (m.flush.crash ks).fl = m.flush.fl := by
  have : keptOnes [] ks = [] := by cases ks <;> rfl
  unfold DevM.crash
  rw [show m.flush.pend = [] from rfl, this]
  rfl
theorem newDev_may {n k : Nat} (h : k < n) : (newDev n).may k = [sect0] := by
  rw [may_flushed k rfl]
  simp [newDev, h]
theorem getLastD_getD {l : List ByteArray} (h : 0 < l.length) : l.getLastD ByteArray.empty = l.getD (l.length - 1) ByteArray.empty := by
  rw [List.getLastD_eq_getLast?, List.getLast?_eq_getElem?, List.getD_eq_getElem?_getD]
end Go.Proofs.Ytbpblokfiajpjab

namespace Go.Proofs.Ytbpblokfiajpjab
def loopsOf : Code → List Code
  | .loop c => [c]
  | .seq a b => loopsOf a ++ loopsOf b
  | .block _ c => loopsOf c
  | .scope c => loopsOf c
  | .cond _ a b => loopsOf a ++ loopsOf b
  | _ => []
theorem frame_is (t : Array Value) (n : Nat) (h : t.size = n) : t = ((List.range n).map fun k => t.getD k undef).toArray := by
  apply Array.ext
  · simp [h]
  · intro i h1 h2
    simp [h1]
end Go.Proofs.Ytbpblokfiajpjab
