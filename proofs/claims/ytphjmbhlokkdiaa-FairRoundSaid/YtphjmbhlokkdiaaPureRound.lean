import Derived.Test.YtphjmbhlokkdiaaFairK
/- Plain, for FairRound: where each share is the greatest cost at least, one pick leaves the turn or hands it to the next queue. -/
namespace Go.Proofs.Ytphjmbhlokkdiaa
set_option linter.unusedSimpArgs false
set_option linter.unusedVariables false

/-- a fresh share serves -/
theorem serve_fresh {f : Fr} (hg : Gd f) (hQ : f.Q = 1000) (hH : f.H = false) {k : Nat} {q : Tn} (hk : f.At = (k : Int)) (hq : f.ts[k]? = some q) {c : Int} (h1 : 1 ≤ c) (h2 : c ≤ 1000) : (serveF f k q c).2 = true := by
  obtain ⟨a1, a2, a3, a4, a5⟩ := okT_iff.1 (hg.ok k q hq)
  have h3 : ¬ (q.L + q.W * f.Q < c) := by
    rw [hQ]
    omega
  simp [serveF, hH, h3, show ¬ c = 0 by omega]
theorem round_pick {f : Fr} {hs : List Hd} (hg : Gd f) (hQ : f.Q = 1000) (hC : ∀ x, x ∈ hs → 1 ≤ x.C ∧ x.C ≤ 1000) (hA : ∀ q, q ∈ f.ts → costOf hs q.N ≠ 0) {k : Nat} (hk : f.At = (k : Int)) :
    ∃ fr, pickN 10 f hs = some fr ∧ fr.Q = 1000 ∧ (fr.At = (k : Int) ∨ (f.H = true ∧ fr.At = (((k + 1) % f.ts.length : Nat) : Int))) := by
  obtain ⟨k', hk', hkl⟩ := hg.at_
  obtain rfl : k' = k := by omega
  obtain ⟨q, hq⟩ := get_some f.ts k' hkl
  have hcb := costOf_bound hC q.N
  have hc1 : 1 ≤ costOf hs q.N := by have := hA q (List.mem_of_getElem? hq); omega
  obtain ⟨ha, hQ1⟩ := serveF_at f k' q (costOf hs q.N)
  have hgd := serveF_gd hg hk hq (costOf hs q.N) hcb
  cases hz : (serveF f k' q (costOf hs q.N)).2 with
  | true =>
    refine ⟨(serveF f k' q (costOf hs q.N)).1, ?_, by rw [hQ1, hQ], .inl (by rw [ha, hk])⟩
    rw [pickN, hk, Int.toNat_natCast, hq]
    simp only [hz, if_true]
  | false =>
    have hH : f.H = true := by
      cases h : f.H with
      | true => rfl
      | false => rw [serve_fresh hg hQ h hk hq hc1 hcb.2] at hz; cases hz
    have hg2 := hgd.2 hz
    have hl := serveF_len f k' q (costOf hs q.N)
    have hnm := serveF_names f k' q (costOf hs q.N) hq
    obtain ⟨f2, hf2⟩ : ∃ f2, f2 = advF (serveF f k' q (costOf hs q.N)).1 := ⟨_, rfl⟩
    have hat2 : f2.At = (((k' + 1) % f.ts.length : Nat) : Int) := by
      rw [hf2]
      show ((serveF f k' q (costOf hs q.N)).1.At + 1).tmod ((serveF f k' q (costOf hs q.N)).1.ts.length : Int) = _
      rw [ha, hl, hk]
      have : ((k' : Int) + 1) = ((k' + 1 : Nat) : Int) := by omega
      rw [this, Int.ofNat_tmod]
    have hl2 : f2.ts.length = f.ts.length := by rw [hf2]; exact hl
    have hn2 : f2.ts.map Tn.N = f.ts.map Tn.N := by rw [hf2]; exact hnm
    have hQ2 : f2.Q = 1000 := by rw [hf2]; show (serveF f k' q (costOf hs q.N)).1.Q = 1000; rw [hQ1, hQ]
    have hH2 : f2.H = false := by rw [hf2]; rfl
    rw [← hf2] at hg2
    have hj : (k' + 1) % f.ts.length < f2.ts.length := by rw [hl2]; exact Nat.mod_lt _ (by omega)
    obtain ⟨p, hp⟩ := get_some f2.ts _ hj
    have hpm : p.N ∈ f.ts.map Tn.N := by rw [← hn2]; exact List.mem_map_of_mem (List.mem_of_getElem? hp)
    obtain ⟨p', hp', he⟩ := List.mem_map.1 hpm
    have hcp : 1 ≤ costOf hs p.N := by
      have h1 := hA p' hp'
      rw [he] at h1
      have := costOf_bound hC p.N
      omega
    have hcb2 := costOf_bound hC p.N
    have hz2 := serve_fresh hg2 hQ2 hH2 hat2 hp hcp hcb2.2
    obtain ⟨ha3, hQ3⟩ := serveF_at f2 ((k' + 1) % f.ts.length) p (costOf hs p.N)
    refine ⟨(serveF f2 ((k' + 1) % f.ts.length) p (costOf hs p.N)).1, ?_, by rw [hQ3, hQ2], .inr ⟨hH, by rw [ha3, hat2]⟩⟩
    rw [pickN, hk, Int.toNat_natCast, hq]
    simp only [hz, Bool.false_eq_true, if_false]
    rw [← hf2, pickN, hat2, Int.toNat_natCast, hp]
    simp only [hz2, if_true]
end Go.Proofs.Ytphjmbhlokkdiaa
