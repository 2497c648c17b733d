/- Rows whose slice may begin behind the block's head: seen, stored into, sliced, appended to. No conditions. -/
import Derived.Test.YtbpblokfiajpjaaRow
namespace Go.SL
open Go.RowKit

/-- a slice that owns its block from its first element on; off cells lie ahead of it -/
def rowo (e : TypeId) (sz : Nat) (v : Value) (n : Nat) (xs : List Value) : HP := fun h =>
  xs.length = n * sz ∧ ((v = .slice none 0 0 ∧ n = 0 ∧ emp h) ∨
    ∃ g off cap cur, v = .slice (some ⟨g, off, none⟩) n cap ∧ n ≤ cap ∧ cap ≤ maxLen ∧ cur.size = off + cap * sz ∧ (cur.toList.drop off).take (n * sz) = xs ∧ pts g (.cells cur e (0, 0)) h)

theorem rowo_of_row {e : TypeId} {sz : Nat} {v : Value} {n : Nat} {xs : List Value} {h : Hp} (H : row e sz v n xs h) : rowo e sz v n xs h := by
  obtain ⟨hl, h1 | ⟨g, cap, cur, rfl, h1, h2, h3, h4, h5⟩⟩ := H
  · exact ⟨hl, .inl h1⟩
  · exact ⟨hl, .inr ⟨g, 0, cap, cur, rfl, h1, h2, by omega, by simpa using h4, h5⟩⟩
theorem own_rowo_of_row {w : World} {L : List HP} (k : Nat) {e : TypeId} {sz : Nat} {v : Value} {n : Nat} {xs : List Value} (H : own w L) (hk : L[k]? = some (row e sz v n xs)) : own w (L.set k (rowo e sz v n xs)) :=
  own_weak k (fun _ => rowo_of_row) H hk

theorem own_rowo_nil {w : World} {L : List HP} (e : TypeId) (sz : Nat) (H : own w L) : own w (rowo e sz (.slice none 0 0) 0 [] :: L) :=
  own_rowo_of_row 0 (own_row_nil e sz H) rfl

theorem own_rowo_of {w : World} {L : List HP} (k : Nat) {g off cap n sz : Nat} {cur : Array Value} {e : TypeId} {xs : List Value} (H : own w L) (hk : L[k]? = some (pts g (.cells cur e (0, 0))))
    (hn : n ≤ cap) (hc : cap ≤ maxLen) (hs : cur.size = off + cap * sz) (ht : (cur.toList.drop off).take (n * sz) = xs) : own w (L.set k (rowo e sz (.slice (some ⟨g, off, none⟩) n cap) n xs)) := by
  refine own_weak k (fun h hh => ⟨?_, .inr ⟨g, off, cap, cur, rfl, hn, hc, hs, ht, hh⟩⟩) H hk
  rw [← ht, List.length_take, List.length_drop, Array.length_toList, hs]
  have := Nat.mul_le_mul_right sz hn
  omega

theorem own_rowo {w : World} {L : List HP} (k : Nat) {e : TypeId} {sz : Nat} {v : Value} {n : Nat} {xs : List Value} (H : own w L) (hk : L[k]? = some (rowo e sz v n xs)) :
    xs.length = n * sz ∧ ((v = .slice none 0 0 ∧ n = 0) ∨
    ∃ g off cap cur, v = .slice (some ⟨g, off, none⟩) n cap ∧ n ≤ cap ∧ cap ≤ maxLen ∧ cur.size = off + cap * sz ∧ (cur.toList.drop off).take (n * sz) = xs ∧ own w (L.set k (pts g (.cells cur e (0, 0))))) := by
  obtain ⟨h, hs, h1, h2, a, ⟨hl, p⟩, q⟩ := own_pick k H hk
  refine ⟨hl, ?_⟩
  rcases p with ⟨rfl, rfl, _⟩ | ⟨g, off, cap, cur, rfl, c1, c2, c3, c4, c5⟩
  · exact .inl ⟨rfl, rfl⟩
  · exact .inr ⟨g, off, cap, cur, rfl, c1, c2, c3, c4, own_put H k hk ⟨h, hs, h1, h2, a, c5, q⟩⟩

theorem take_drop_get {l xs : List Value} {off m j : Nat} {u : Value} (h : (l.drop off).take m = xs) (hu : xs[j]? = some u) : l[off + j]? = some u := by
  rw [← h, List.getElem?_take] at hu
  split at hu
  · rwa [List.getElem?_drop] at hu
  · cases hu

/-- the form of such a slice's value -/
theorem own_rowo_form {w : World} {L : List HP} (k : Nat) {e : TypeId} {sz : Nat} {v : Value} {n : Nat} {xs : List Value} (H : own w L) (hk : L[k]? = some (rowo e sz v n xs)) :
    ∃ ao g off cap, v = .slice ao n cap ∧ n ≤ cap ∧ cap ≤ maxLen ∧ (0 < n → ao = some ⟨g, off, none⟩) ∧ (∀ j u, xs[j]? = some u → w.cell? ⟨g, off + j, none⟩ = some u) ∧ (ao ≠ none → ∀ j, w.frozen? ⟨g, j, none⟩ = false) := by
  obtain ⟨hl, ⟨rfl, rfl⟩ | ⟨g, off, cap, cur, rfl, h1, h2, h3, h4, h5⟩⟩ := own_rowo k H hk
  · have hx : xs = [] := List.eq_nil_of_length_eq_zero (by simpa using hl)
    subst hx
    exact ⟨none, 0, 0, 0, rfl, Nat.le_refl _, by simp [maxLen], fun h => absurd h (by simp), (fun j u h => by simp at h), fun h => absurd rfl h⟩
  · have hk' : (L.set k (pts g (.cells cur e (0, 0))))[k]? = some (pts g (.cells cur e (0, 0))) := by
      have := (List.getElem?_eq_some_iff.1 hk).1
      simp [this]
    obtain ⟨hc, hf⟩ := own_cells k h5 hk'
    refine ⟨_, g, off, cap, rfl, h1, h2, fun _ => rfl, fun j u hu => ?_, fun _ => hf⟩
    rw [hc, ← Array.getElem?_toList]
    exact take_drop_get h4 hu

/-- v[k:], the elements from k on -/
theorem own_rowo_cut {w : World} {L : List HP} (k : Nat) {e : TypeId} {sz g off n cap : Nat} {xs : List Value} (H : own w L) (hk : L[k]? = some (rowo e sz (.slice (some ⟨g, off, none⟩) n cap) n xs)) (i : Nat) (hi : i ≤ n) :
    own w (L.set k (rowo e sz (.slice (some ⟨g, off + i * sz, none⟩) (n - i) (cap - i)) (n - i) (xs.drop (i * sz)))) := by
  refine own_weak k (fun h ⟨hl, hh⟩ => ?_) H hk
  rcases hh with ⟨h1, _⟩ | ⟨g', off', cap', cur, h1, h2, h3, h4, h5, h6⟩
  · cases h1
  · simp only [Value.slice.injEq, Option.some.injEq, Addr.mk.injEq, and_true, true_and] at h1
    obtain ⟨⟨rfl, rfl⟩, rfl⟩ := h1
    have e1 := Nat.sub_mul n i sz
    have e2 := Nat.sub_mul cap i sz
    have e3 := Nat.mul_le_mul_right sz hi
    have e4 := Nat.mul_le_mul_right sz h2
    refine ⟨by rw [List.length_drop, hl, e1], .inr ⟨g, off + i * sz, cap - i, cur, rfl, by omega, by omega, by omega, ?_, h6⟩⟩
    rw [← h5, List.drop_take, List.drop_drop, e1]

section
variable {P : Program}
theorem run_append_room_off (w : World) (t ty e : TypeId) (i : TypeInfo) (ht : P.underlying t = some (.slice e)) (hi : P.info? e = some i)
    (g off sLen sCap : Nat) (cur : Array Value) (hg : w.heap[g]? = some (.cells cur e (0, 0)))
    (a : Addr) (m c : Nat) (news : List Value) (hl : news.length = m * i.size) (hnews : ∀ j u, news[j]? = some u → w.cell? (a.add j) = some u) (h1 : ∀ u ∈ news, u.oneCell' = true)
    (hroom : sLen + m ≤ sCap) (hfit : off + sLen * i.size + news.length ≤ cur.size) :
    (Builtin.append_ #[t, t] ty #[.slice (some ⟨g, off, none⟩) sLen sCap, .slice (some a) m c]).run P w =
      .ok (.slice (some ⟨g, off, none⟩) (sLen + m) sCap) (w.setRow g (cur.toList.take (off + sLen * i.size) ++ news ++ cur.toList.drop (off + sLen * i.size + news.length)).toArray) := by
  have hf := run_firstCells_some (P := P) w i.size m a m c news hl hnews
  have hst := run_storeCells_at P g (off + sLen * i.size) e news 0 cur w hg (by simpa using hfit) h1
  simp only [Nat.add_zero] at hst
  have hadd : (⟨g, off, none⟩ : Addr).add (sLen * i.size) = ⟨g, off + sLen * i.size, none⟩ := by unfold Addr.add; split <;> simp_all
  simp [Builtin.append_, run_underlying ht, sizeOf, typeInfo, hi, Builtin.lenOf, hroom, hf, hadd, hst]

theorem run_append_rowo {w : World} {L : List HP} (k : Nat) (t ty e : TypeId) {sz bytes : Nat} {z : Value} (ht : P.underlying t = some (.slice e)) (he : Elem P e sz bytes z) (hzs : z.cells.size = sz) (hsz : 0 < sz)
    {g off n cap : Nat} {xs : List Value} (H : own w L) (hk : L[k]? = some (rowo e sz (.slice (some ⟨g, off, none⟩) n cap) n xs))
    (a : Addr) (m c : Nat) (news : List Value) (hl : news.length = m * sz) (hnews : ∀ j u, news[j]? = some u → w.cell? (a.add j) = some u) (h1 : ∀ u ∈ news, u.oneCell' = true)
    (h63 : n + m ≤ maxLen) (hbytes : (n + m) * bytes ≤ 140737488355328) :
    ∃ g' off' cap' w', (Builtin.append_ #[t, t] ty #[.slice (some ⟨g, off, none⟩) n cap, .slice (some a) m c]).run P w = .ok (.slice (some ⟨g', off', none⟩) (n + m) cap') w' ∧ n + m ≤ cap' ∧ cap' ≤ maxLen ∧
      own w' (L.set k (rowo e sz (.slice (some ⟨g', off', none⟩) (n + m) cap') (n + m) (xs ++ news))) ∧ Ext w w' := by
  obtain ⟨i, hi, hz, rfl, rfl⟩ := info_parts he
  obtain ⟨hlen, hv⟩ := own_rowo k H hk
  have hkl : k < L.length := (List.getElem?_eq_some_iff.1 hk).1
  have hlen' : (xs ++ news).length = (n + m) * i.size := by rw [List.length_append, hlen, hl, Nat.add_mul]
  have h63' : n + m ≤ 9223372036854775807 := by simp only [maxLen] at h63; omega
  rcases hv with ⟨h0, _⟩ | ⟨g0, off0, cap0, cur, hv0, c1, c2, c3, c4, c5⟩
  · cases h0
  · simp only [Value.slice.injEq, Option.some.injEq, Addr.mk.injEq, and_true, true_and] at hv0
    obtain ⟨⟨rfl, rfl⟩, rfl⟩ := hv0
    have hk' : (L.set k (pts g (.cells cur e (0, 0))))[k]? = some (pts g (.cells cur e (0, 0))) := by simp [hkl]
    have hg := own_at k c5 hk'
    by_cases hroom : n + m ≤ cap
    · have hm1 := Nat.mul_le_mul_right i.size hroom
      have hm2 := Nat.add_mul n m i.size
      have hfit : off + n * i.size + news.length ≤ cur.size := by rw [hl, c3]; omega
      have hr := run_append_room_off (P := P) w t ty e i ht hi g off n cap cur hg a m c news hl hnews h1 hroom hfit
      refine ⟨g, off, cap, _, hr, hroom, c2, ?_, ⟨rfl, rfl, rfl, by simp [World.setRow]⟩⟩
      have hu : own (w.setRow g (cur.toList.take (off + n * i.size) ++ news ++ cur.toList.drop (off + n * i.size + news.length)).toArray) _ := own_upd k (o' := .cells (cur.toList.take (off + n * i.size) ++ news ++ cur.toList.drop (off + n * i.size + news.length)).toArray e (0, 0)) c5 hk' (by
        funext x
        by_cases hx : x = g
        · subst hx; simp only [if_true]; exact setRow_heap w x cur _ e _ hg
        · simp only [hx, if_false]; exact setRow_other w g x _ hx)
      have hk2 : ((L.set k (pts g (.cells cur e (0, 0)))).set k (pts g (.cells (cur.toList.take (off + n * i.size) ++ news ++ cur.toList.drop (off + n * i.size + news.length)).toArray e (0, 0))))[k]? =
          some (pts g (.cells (cur.toList.take (off + n * i.size) ++ news ++ cur.toList.drop (off + n * i.size + news.length)).toArray e (0, 0))) := by simp [hkl]
      have h3 := own_rowo_of k (n := n + m) (cap := cap) (off := off) (sz := i.size) (xs := xs ++ news) hu hk2 hroom c2 (by
        simp only [List.size_toArray, List.length_append, List.length_take, List.length_drop, Array.length_toList]
        omega) (by
        have e1 : cur.toList.take (off + n * i.size) = cur.toList.take off ++ xs := by rw [List.take_add, c4]
        have e2 : (cur.toList.take off).length = off := by rw [List.length_take, Array.length_toList]; omega
        rw [e1, List.append_assoc, List.append_assoc]
        rw [List.drop_append_of_le_length (by omega), List.drop_of_length_le (by omega), List.nil_append, ← List.append_assoc, ← hlen']
        exact List.take_left)
      simpa only [List.set_set] using h3
    · have holds : ∀ j u, xs[j]? = some u → w.cell? ((⟨g, off, none⟩ : Addr).add j) = some u := fun j u hu => by
        have hadd : (⟨g, off, none⟩ : Addr).add j = ⟨g, off + j, none⟩ := by unfold Addr.add; split <;> simp_all
        rw [hadd, (own_cells k c5 hk').1, ← Array.getElem?_toList]
        exact take_drop_get c4 hu
      have hr := run_append_grow (P := P) w t ty e i z ht hi hz ⟨g, off, none⟩ n cap xs hlen holds a m c news hl hnews (by omega) (by omega) (growslice_fits (by omega) hbytes)
      have hge := grownCap_ge w (n + m) cap e
      have hcm := grownCap_le_maxLen w (n + m) cap e h63
      refine ⟨w.heap.size, 0, _, _, hr, hge, hcm, ?_, (Ext.refl _).drew.alloc _⟩
      have h2 := own_alloc (own_erase k (own_drew H) hk) (.cells (xs.toArray ++ news.toArray ++ Builtin.zeroCells z.cells (grownCap w (n + m) cap e - (n + m))) e)
      have h3 := own_rowo_of 0 (n := n + m) (off := 0) (cap := grownCap w (n + m) cap e) (sz := i.size) (xs := xs ++ news) h2 rfl hge hcm (by
        simp only [Array.size_append, List.size_toArray, size_zeroCells, hzs, hlen, hl, ← Nat.add_mul, Nat.zero_add]
        congr 1
        omega) (by
        simp only [Array.toList_append, List.append_assoc, List.drop_zero]
        rw [← List.append_assoc, ← hlen']
        exact List.take_left)
      exact own_put H k hk h3

theorem wpList_append_rowo {w : World} {L : List HP} {ops : Array Oper} {rest : List Oper} {o : Oper} {a : Act} {Q : Exit → Act → World → Prop} (hgd : o.guard = none) (s x : Operand) (t : TypeId)
    (ho : o.op = .call { callee := .builtin .append, args := #[s, x], argTypes := #[t, t] })
    (k : Nat) (e : TypeId) {sz bytes : Nat} {z : Value} (ht : P.underlying t = some (.slice e)) (he : Elem P e sz bytes z) (hzs : z.cells.size = sz) (hsz : 0 < sz)
    {g off n cap : Nat} {xs : List Value} (hs : a.eval s = .slice (some ⟨g, off, none⟩) n cap) (H : own w L) (hk : L[k]? = some (rowo e sz (.slice (some ⟨g, off, none⟩) n cap) n xs))
    (ad : Addr) (m c : Nat) (news : List Value) (hx : a.eval x = .slice (some ad) m c) (hl : news.length = m * sz) (hnews : ∀ j u, news[j]? = some u → w.cell? (ad.add j) = some u) (h1 : ∀ u ∈ news, u.oneCell' = true)
    (h63 : n + m ≤ maxLen) (hbytes : (n + m) * bytes ≤ 140737488355328)
    (h : ∀ g' off' cap' w', n + m ≤ cap' → cap' ≤ maxLen → own w' (L.set k (rowo e sz (.slice (some ⟨g', off', none⟩) (n + m) cap') (n + m) (xs ++ news))) → Ext w w' → wpList P ops Q rest (a.put o.dst (.slice (some ⟨g', off', none⟩) (n + m) cap')) w') : wpList P ops Q (o :: rest) a w :=
  wpList_plain hgd fun K hK => by
    obtain ⟨g', off', cap', w', hr, c1, c2, h2, h3⟩ := run_append_rowo (P := P) k t o.type e ht he hzs hsz H hk ad m c news hl hnews h1 h63 hbytes
    unfold Oper.wp execOp
    simp only [ho, resolve, invoke, builtin, Sem.run_bind, Sem.run_pure, Result.andThen_ok, List.map_toArray, List.map_cons, List.map_nil, hs, hx, hr]
    exact hK _ _ (h g' off' cap' w' c1 c2 h2 h3)

theorem step_append_rowo {w : World} {L : List HP} {ops : Array Oper} {o : Oper} {a : Act} {K : Act → World → Prop} {Q : Exit → Act → World → Prop} {E : Prop} (hgd : o.guard = none) (s x : Operand) (t : TypeId)
    (ho : o.op = .call { callee := .builtin .append, args := #[s, x], argTypes := #[t, t] })
    (k : Nat) (e : TypeId) {sz bytes : Nat} {z : Value} (ht : P.underlying t = some (.slice e)) (he : Elem P e sz bytes z) (hzs : z.cells.size = sz) (hsz : 0 < sz)
    {g off n cap : Nat} {xs : List Value} (hs : a.eval s = .slice (some ⟨g, off, none⟩) n cap) (H : own w L) (hk : L[k]? = some (rowo e sz (.slice (some ⟨g, off, none⟩) n cap) n xs))
    (ad : Addr) (m c : Nat) (news : List Value) (hx : a.eval x = .slice (some ad) m c) (hl : news.length = m * sz) (hnews : ∀ j u, news[j]? = some u → w.cell? (ad.add j) = some u) (h1 : ∀ u ∈ news, u.oneCell' = true)
    (h63 : n + m ≤ maxLen) (hbytes : (n + m) * bytes ≤ 140737488355328)
    (h : ∀ g' off' cap' w', n + m ≤ cap' → cap' ≤ maxLen → own w' (L.set k (rowo e sz (.slice (some ⟨g', off', none⟩) (n + m) cap') (n + m) (xs ++ news))) → Ext w w' → K (a.put o.dst (.slice (some ⟨g', off', none⟩) (n + m) cap')) w') : if Region.wanted o (yielded ops a.tmps) = true then Oper.wp P o a w K Q else E := by
  rw [if_pos (by simp [Region.wanted, hgd])]
  obtain ⟨g', off', cap', w', hr, c1, c2, h2, h3⟩ := run_append_rowo (P := P) k t o.type e ht he hzs hsz H hk ad m c news hl hnews h1 h63 hbytes
  unfold Oper.wp execOp
  simp only [ho, resolve, invoke, builtin, Sem.run_bind, Sem.run_pure, Result.andThen_ok, List.map_toArray, List.map_cons, List.map_nil, hs, hx, hr]
  exact h g' off' cap' w' c1 c2 h2 h3
end
end Go.SL
