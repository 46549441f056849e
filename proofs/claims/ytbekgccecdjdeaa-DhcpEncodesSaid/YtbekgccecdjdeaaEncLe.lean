/- The bytes of a message: how many, and each below 256; the two answers of the decoding. Plain facts. -/
import Derived.Test.YtbekgccecdjdeaaTrip
namespace Go.Proofs.Ytbekgccecdjdeaa
open Go.RowKit

theorem enc_some {m : Msg} {l : List Nat} (h : enc m = some l) : headOk m = true ∧ m.opts.all optOk = true ∧ l = headBytes m ++ m.opts.flatMap optBytes ++ [255] := by
  unfold enc at h
  split at h
  · rename_i hh
    exact ⟨hh.1, hh.2, (Option.some.inj h).symm⟩
  · cases h
theorem enc_length {m : Msg} {l : List Nat} (h : enc m = some l) : l.length ≤ 20000 := by
  obtain ⟨h1, h2, rfl⟩ := enc_some h
  have := opts_length _ h2
  have := ((headOk_iff m).1 h1).2.2.2.2.2.2
  rw [List.length_append, List.length_append, headBytes_length, List.length_singleton]
  omega
theorem strNats_le (s : ByteArray) : ∀ c ∈ strNats s, c ≤ 255 := by
  intro c hc
  unfold strNats at hc
  obtain ⟨u, _, rfl⟩ := List.mem_map.1 hc
  have := u.toNat_lt
  omega
theorem optBytes_le {o : Opt} (h : optOk o = true) : ∀ c ∈ optBytes o, c ≤ 255 := by
  obtain ⟨_, h1, h2, h3⟩ := (optOk_iff o).1 h
  intro c hc
  unfold optBytes at hc
  rcases List.mem_cons.1 hc with rfl | hc
  · omega
  · rcases List.mem_cons.1 hc with rfl | hc
    · exact h3
    · exact strNats_le _ c hc
theorem headBytes_le {m : Msg} (h : headOk m = true) : ∀ c ∈ headBytes m, c ≤ 255 := by
  have ho := ((headOk_iff m).1 h).1
  intro c hc
  unfold headBytes at hc
  simp only [List.mem_append] at hc
  rcases hc with (((((((((hc | hc) | hc) | hc) | hc) | hc) | hc) | hc) | hc) | hc) | hc
  · simp only [List.mem_cons, List.not_mem_nil, or_false] at hc
    omega
  · exact be_le _ _ c hc
  · exact be_le _ _ c hc
  · exact be_le _ _ c hc
  · exact be_le _ _ c hc
  · exact be_le _ _ c hc
  · exact be_le _ _ c hc
  · exact be_le _ _ c hc
  · exact be_le _ _ c hc
  · rw [(List.mem_replicate.1 hc).2]; omega
  · simp only [List.mem_cons, List.not_mem_nil, or_false] at hc
    omega
theorem getD_le {l : List Nat} (h : ∀ c ∈ l, c ≤ 255) (k : Nat) : l.getD k 0 ≤ 255 := by
  rw [List.getD_eq_getElem?_getD]
  cases hk : l[k]? with
  | none => simp
  | some x => simpa using h x (List.mem_of_getElem? hk)
theorem enc_le {m : Msg} {l : List Nat} (h : enc m = some l) : ∀ c ∈ l, c ≤ 255 := by
  obtain ⟨h1, h2, rfl⟩ := enc_some h
  intro c hc
  rcases List.mem_append.1 hc with hc | hc
  · rcases List.mem_append.1 hc with hc | hc
    · exact headBytes_le h1 c hc
    · obtain ⟨o, ho, hc⟩ := List.mem_flatMap.1 hc
      exact optBytes_le (List.all_eq_true.1 h2 o ho) c hc
  · simp only [List.mem_singleton] at hc
    omega
theorem dec_cases (l : List Nat) : dec l = (noMsg, 60) ∨ ∃ m, dec l = (m, 0) := by
  unfold dec
  split
  · split
    · exact .inr ⟨_, rfl⟩
    · exact .inl rfl
  · exact .inl rfl
theorem cnt_room {l : List Nat} (h : l.length ≤ 1048576) (i : Nat) : cnt (l.drop i) ≤ 1048576 := by
  have := cnt_le _ (l.drop i) (Nat.le_refl _)
  rw [List.length_drop] at this
  omega
end Go.Proofs.Ytbekgccecdjdeaa
