/- Tests of valid bigraphs that look at numbers alone. -/
import Derived.Test.YtjkebiodabheiaaDoorGoodI
namespace Go.Proofs.YtjkebiodabheiaaDoor
open Go Go.RowKit Go.BigFrame

theorem BigAt.lens {w : World} {v : Value} {b : Big} (h : BigAt w v b) : b.nodes.length ≤ 1073741824 ∧ b.sites.length ≤ 1073741824 ∧ b.outer.length ≤ 1073741824 ∧ b.inner.length ≤ 1073741824 := by
  obtain ⟨vn, vq, vo, vi, rfl, h1, h2, h3, h4, _⟩ := h
  obtain ⟨_, _, _, _, h1, _⟩ := h1.open
  obtain ⟨_, _, _, _, h2, _⟩ := h2.open
  obtain ⟨_, _, _, _, h3, _⟩ := h3.open
  obtain ⟨_, _, _, _, h4, _⟩ := h4.open
  exact ⟨h1, h2, h3, h4⟩
def wiringB (b : Big) : Bool := decide (b.roots = 0)
def openB (b : Big) : Bool := wiringB b && decide (b.edges = 0)
def primeB (b : Big) : Bool := decide (b.roots = 1) && decide (b.inner.length = 0)
def closedB (b : Big) : Bool := decide (b.sites.length = 0) && decide (b.inner.length = 0)
def placingB (b : Big) : Bool := decide (b.nodes.length = 0) && (decide (b.edges = 0) && (decide (b.outer.length = 0) && decide (b.inner.length = 0)))
def decE (b : Big) : Bool := decide (b.edges = 0)
def goodWB (sig : List Ctl) (b : Big) : Bool := goodB sig b && wiringB b
















end Go.Proofs.YtjkebiodabheiaaDoor
